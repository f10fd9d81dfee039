/- This text is a part of the proof: Forms, ParseBase. -/
import Derived.Test.YtlppdgaogdpajaaGreatDoorK24
namespace Go.Proofs.YtlppdgaogdpajaaGreatDoor
open Go.RowKit Go.Shelf
attribute [local go_sem] Oper.semAt_some
theorem c_forms1 (k : Int) (w : World) : Calls Tryz.prog 162 #[.int .u8 k] w fun e w' => e = .returned (.func (.func 163) #[] #[.pointer (some ⟨w.heap.size, 0, none⟩)]) ∧ w'.cell? ⟨w.heap.size, 0, none⟩ = some (.int .u8 k) ∧ Below w.heap.size w w' := by
 have hmf : ∀ (fn : Fn) (first cap : Array Value) (w : World), (Instr.makeFunc fn first cap).run Tryz.prog w = .ok (.func fn first cap) w := fun _ _ _ _ => rfl
 go_enter Tryz.func162, Tryz.ntmps162
 go_wp2
 go_ret
 exact ⟨rfl, by go_simp, by go_grown⟩
abbrev mapF : TypeId := 112
theorem mapF_under : Tryz.prog.underlying mapF = some (.map 9 110) := by kernel_rfl
theorem str_under : Tryz.prog.underlying 9 = some .string := by kernel_rfl
theorem run_put_str {w : World} {r : Nat} {es : Array MapEntry} {clock : Nat} (hb : w.heap[r]? = some (.map es clock)) (s : ByteArray) (v : Value) (hf : Instr.findNow .string (.string s) es.toList 0 = some none) :
  (Instr.mapUpdate mapF (.map (some r)) (.string s) v).run Tryz.prog w = .ok () { w with heap := w.heap.setIfInBounds r (.map (es.push { key := .string s, val := v, born := clock }) (clock + 1)) } := by
 have hc : (Instr.checkKey false 10000 9 (.string s)).run Tryz.prog w = .ok () w := MapKept.run_checkKey (k := .string s) str_under (by simp [MapKept.IsKey]) false 9999
 simp [Instr.mapUpdate, run_underlying mapF_under, MapKept.run_getObj_map hb, hc, MapKept.run_findKey str_under hf, MapKept.run_setObj_map _ hb, Result.andThen]
theorem wpList_insert_str {w : World} {ops : Array Oper} {rest : List Oper} {o : Oper} {a : Act} {Q : Exit → Act → World → Prop} {b : Nat} {es : Array MapEntry} {clock : Nat} (hb : w.heap[b]? = some (.map es clock)) (hg : o.guard = none) (m x v : Operand)
  (hop : o.op = Op.insert mapF m x v) (hm : a.eval m = .map (some b)) (s : ByteArray) (hx : a.eval x = .string s) (y : Value) (hv : a.eval v = y) (hf : Instr.findNow .string (.string s) es.toList 0 = some none)
  (hK : ∀ w', w'.heap[b]? = some (.map (es.push { key := .string s, val := y, born := clock }) (clock + 1)) → Kept (fun k => k = b) w w' → wpList Tryz.prog ops Q rest (a.put o.dst undef) w') : wpList Tryz.prog ops Q (o :: rest) a w := by
 have hrun := run_put_str hb s y hf
 have hlt : b < w.heap.size := (Array.getElem?_eq_some_iff.1 hb).1
 refine wpList_plain hg fun K' hK' => ?_
 unfold Oper.wp
 simp [execOp, hop, hm, hx, hv, hrun, Result.andThen]
 refine hK' _ _ (hK _ (by simp [hlt]) ⟨rfl, rfl, rfl, by simp, fun j hj hn => ?_⟩)
 simp [Ne.symm hn]
theorem ba_ne {s t : ByteArray} (h : s ≠ t) : (s == t) = false := by
 rcases s with ⟨a⟩
 rcases t with ⟨b⟩
 change (a == b) = false
 apply beq_eq_false_iff_ne.2
 intro e
 exact h (by rw [e])
theorem heap_alloc_new (w : World) (o : Obj) : (w.alloc o).heap[w.heap.size]? = some o := by
 show (w.heap.push o)[w.heap.size]? = some o
 simp
theorem run_look_str {w : World} {r : Nat} {es : Array MapEntry} {clock : Nat} (hb : w.heap[r]? = some (.map es clock)) (s : ByteArray) (o : Option (Nat × Value)) (hf : Instr.findNow .string (.string s) es.toList 0 = some o) :
  (Instr.lookup mapF (.map (some r)) (.string s) true).run Tryz.prog w = .ok (.tuple #[(o.map (·.2)).getD .nilFunc, .bool o.isSome]) w := by
 have hc : ∀ e, (Instr.checkKey e 10000 9 (.string s)).run Tryz.prog w = .ok () w := fun e => MapKept.run_checkKey (k := .string s) str_under (by simp [MapKept.IsKey]) e 9999
 cases o with
 | none => simp [Instr.lookup, run_underlying mapF_under, MapKept.run_getObj_map hb, hc, MapKept.run_findKey str_under hf, Result.andThen]
 | some p => simp [Instr.lookup, run_underlying mapF_under, MapKept.run_getObj_map hb, hc, MapKept.run_findKey str_under hf, Result.andThen]
def fnPlace (k : Nat) : Value := .func (.func 163) #[] #[.pointer (some ⟨k, 0, none⟩)]
def fnGate : Value := .func (.func 164) #[] #[]
def formsL (k1 k2 : Nat) : Array MapEntry := #[⟨.string wHeaf, fnPlace k1, 0⟩, ⟨.string wFold, fnPlace k2, 1⟩, ⟨.string wGate, fnGate, 2⟩]
structure FormsAt (W : World) (b k1 k2 : Nat) : Prop where
 m : W.heap[b]? = some (.map (formsL k1 k2) 3)
 c1 : W.cell? ⟨k1, 0, none⟩ = some (.int .u8 1)
 c2 : W.cell? ⟨k2, 0, none⟩ = some (.int .u8 2)
theorem FormsAt.later {W W' : World} {b k1 k2 : Nat} (h : FormsAt W b k1 k2) (hb : Below W.heap.size W W') : FormsAt W' b k1 k2 :=
 ⟨(hb.block b (Array.getElem?_eq_some_iff.1 h.m).1).trans h.m, ((bcell hb).1 _ _ (cell_lt h.c1)).trans h.c1, ((bcell hb).1 _ _ (cell_lt h.c2)).trans h.c2⟩
def formO (k1 k2 : Nat) (s : ByteArray) : Option Value := if s = wHeaf then some (fnPlace k1) else if s = wFold then some (fnPlace k2) else if s = wGate then some fnGate else none
theorem FormsAt.look {W : World} {b k1 k2 : Nat} (h : FormsAt W b k1 k2) (s : ByteArray) :
  (Instr.lookup mapF (.map (some b)) (.string s) true).run Tryz.prog W = .ok (.tuple #[(formO k1 k2 s).getD .nilFunc, .bool (formO k1 k2 s).isSome]) W := by
 unfold formO
 by_cases h1 : s = wHeaf
 ·subst h1
  rw [run_look_str h.m _ (some (0, fnPlace k1)) (by rfl)]
  simp
 by_cases h2 : s = wFold
 ·subst h2
  rw [run_look_str h.m _ (some (1, fnPlace k2)) (by rfl)]
  simp [h1]
 by_cases h3 : s = wGate
 ·subst h3
  rw [run_look_str h.m _ (some (2, fnGate)) (by rfl)]
  simp [h1, h2]
 ·rw [run_look_str h.m _ none (by
   simp only [formsL, Instr.findNow, Instr.sameNow]
   rw [show (s == wHeaf) = false from ba_ne h1, show (s == wFold) = false from ba_ne h2, show (s == wGate) = false from ba_ne h3])]
  simp [h1, h2, h3]
set_option maxRecDepth 100000 in
set_option maxHeartbeats 4000000 in
theorem c_forms (w : World) : Calls Tryz.prog 91 #[] w fun e w' => (∃ b k1 k2, e = .returned (.map (some b)) ∧ FormsAt w' b k1 k2) ∧ Below w.heap.size w w' := by
 have hmm := @run_makeMap Tryz.prog
 go_enter Tryz.func91, Tryz.ntmps91
 go_wp2_with fail
 refine (c_forms1 1 _).mono ?_
 rintro e W1 ⟨rfl, hk, hB⟩
 have hb0 : W1.heap[w.heap.size]? = some (.map #[] 0) := (hB.block w.heap.size (by simp)).trans (heap_alloc_new _ _)
 have hbw : Below w.heap.size w W1 := bthen (show Below w.heap.size w (w.alloc (.map #[] 0)) from by go_grown) hB
 obtain ⟨k1, hk1⟩ : ∃ k, (w.alloc (.map #[] 0)).heap.size = k := ⟨_, rfl⟩
 rw [hk1] at hk ⊢
 have hne1 : k1 ≠ w.heap.size := by rw [← hk1]; simp
 clear hk1 hB
 go_wp2_with (with_reducible refine atInsert ?_; refine stuckHere ?_)
 refine unHid ?_
 refine wpList_insert_str hb0 (by rfl) _ _ _ (by rfl) (by rfl) wHeaf (by rfl) (fnPlace k1) (by rfl) (by rfl) ?_
 intro W2 hb2 hk2
 have hbw2 : Below w.heap.size w W2 := hbw.trans (hk2.below hbw.size (fun k e => by rw [e]; exact Nat.le_refl _))
 have hc2 := hk2.cell hne1 hk
 clear hb0 hbw hk hk2
 go_wp2_with fail
 refine (c_forms1 2 _).mono ?_
 rintro e W3 ⟨rfl, hk, hB⟩
 have hb0 : W3.heap[w.heap.size]? = _ := (hB.block w.heap.size (Array.getElem?_eq_some_iff.1 hb2).1).trans hb2
 have hbw : Below w.heap.size w W3 := bthen hbw2 hB
 have hc3 := later_of hB hc2
 have hlt := (Array.getElem?_eq_some_iff.1 hb2).1
 obtain ⟨k2, hk2⟩ : ∃ k, W2.heap.size = k := ⟨_, rfl⟩
 rw [hk2] at hk ⊢
 have hne2 : k2 ≠ w.heap.size := by omega
 clear hk2 hB hbw2 hc2 hb2 hlt
 go_wp2_with (with_reducible refine atInsert ?_; refine stuckHere ?_)
 refine unHid ?_
 refine wpList_insert_str hb0 (by rfl) _ _ _ (by rfl) (by rfl) wFold (by rfl) (fnPlace k2) (by rfl) (by rfl) ?_
 intro W4 hb4 hk4
 have hbw4 : Below w.heap.size w W4 := hbw.trans (hk4.below hbw.size (fun k e => by rw [e]; exact Nat.le_refl _))
 have d1 := hk4.cell hne1 hc3
 have d2 := hk4.cell hne2 hk
 clear hb0 hbw hk hk4 hc3
 go_wp2_with (with_reducible refine atInsert ?_; refine stuckHere ?_)
 refine unHid ?_
 refine wpList_insert_str hb4 (by rfl) _ _ _ (by rfl) (by rfl) wGate (by rfl) fnGate (by rfl) (by rfl) ?_
 intro W5 hb5 hk5
 have hbw5 : Below w.heap.size w W5 := hbw4.trans (hk5.below hbw4.size (fun k e => by rw [e]; exact Nat.le_refl _))
 have d3 := hk5.cell hne1 d1
 have d4 := hk5.cell hne2 d2
 have HB := Lib.hid hb5
 clear hb4 hk5 hbw4 d1 d2 hb5
 go_wp2
 go_ret
 exact ⟨⟨w.heap.size, k1, k2, rfl, ⟨HB.out, d3, d4⟩⟩, hbw5⟩
end Go.Proofs.YtlppdgaogdpajaaGreatDoor
namespace Go.Proofs.YtlppdgaogdpajaaGreatDoor
open Go.RowKit Go.Shelf
theorem pl_info : (Tryz.prog.info? 62).map (fun i => (i.zero, i.size, i.bytes)) = some (some (.agg #[.string ByteArray.empty, .int .u8 0]), 2, 24) := by kernel_rfl
theorem gt_info : (Tryz.prog.info? 65).map (fun i => (i.zero, i.size, i.bytes)) = some (some (.agg #[.string ByteArray.empty, .int .i64 0, .int .i64 0, .int .i64 0]), 4, 40) := by kernel_rfl
abbrev Fm.pv (m : Fm) : Value := .slice m.pa m.f.places.length m.pc
abbrev Fm.gv (m : Fm) : Value := .slice m.ga m.f.gates.length m.gc
abbrev OwnPl (w : World) (base : Nat) (v : Value) (l : List Pl) : Prop := w.ownsRow base 62 2 v l.length (cellsL plC l)
abbrev OwnGt (w : World) (base : Nat) (v : Value) (l : List Gt) : Prop := w.ownsRow base 65 4 v l.length (cellsL gtC l)
structure PSt (m : Fm) (pf base : Nat) (W : World) : Prop where
 q0 : W.cell? ⟨pf, 0, none⟩ = some (.int .i64 m.f.ticks)
 q1 : W.cell? ⟨pf, 1, none⟩ = some (.int .i64 m.f.yields)
 q2 : W.cell? ⟨pf, 2, none⟩ = some m.pv
 q3 : W.cell? ⟨pf, 3, none⟩ = some m.gv
 fq0 : W.frozen? ⟨pf, 0, none⟩ = false
 fq1 : W.frozen? ⟨pf, 1, none⟩ = false
 fq2 : W.frozen? ⟨pf, 2, none⟩ = false
 fq3 : W.frozen? ⟨pf, 3, none⟩ = false
 pl : OwnPl W base m.pv m.f.places
 gt : OwnGt W base m.gv m.f.gates
 apart : ∀ g, m.pv.ownBlock = some g → m.gv.ownBlock ≠ some g
 lt : pf < base
def Fm.own (m : Fm) (pf : Nat) (k : Nat) : Prop := k = pf ∨ m.pv.ownBlock = some k ∨ m.gv.ownBlock = some k
theorem PSt.kept {m : Fm} {pf base : Nat} {W W' : World} {O : Nat → Prop} (h : PSt m pf base W) (hk : Kept O W W') (hO : ∀ k, m.own pf k → ¬ O k) : PSt m pf base W' :=
 have c := hO pf (.inl rfl)
 ⟨hk.cell c h.q0, hk.cell c h.q1, hk.cell c h.q2, hk.cell c h.q3, (hk.frozen (cell_lt h.q0) c).trans h.fq0, (hk.frozen (cell_lt h.q1) c).trans h.fq1, (hk.frozen (cell_lt h.q2) c).trans h.fq2, (hk.frozen (cell_lt h.q3) c).trans h.fq3,
  ownsRow_kept h.pl hk (fun k e => hO k (.inr (.inl e))), ownsRow_kept h.gt hk (fun k e => hO k (.inr (.inr e))), h.apart, h.lt⟩
theorem PSt.later {m : Fm} {pf base : Nat} {W W' : World} (h : PSt m pf base W) (hb : Below W.heap.size W W') : PSt m pf base W' :=
 h.kept (Kept.of_below (O := fun _ => False) hb) (fun _ _ e => e)
theorem PSt.own_lt {m : Fm} {pf base : Nat} {W : World} (h : PSt m pf base W) {k : Nat} (hk : m.own pf k) : k < W.heap.size := by
 rcases hk with rfl | e | e
 ·exact cell_lt h.q0
 ·exact (h.pl.lt k e).2
 ·exact (h.gt.lt k e).2
theorem PSt.own_ge {m : Fm} {pf base : Nat} {W : World} (h : PSt m pf base W) {k : Nat} (hk : m.own pf k) : pf ≤ k := by
 have := h.lt
 rcases hk with rfl | e | e
 ·exact Nat.le_refl _
 ·have := (h.pl.lt k e).1; omega
 ·have := (h.gt.lt k e).1; omega
theorem PSt.in {m : Fm} {pf base : Nat} {W : World} (h : PSt m pf base W) (h1 : m.f.places.length ≤ 1000000) (h2 : m.f.gates.length ≤ 1000000) : m.In W := by
 refine ⟨?_, ?_⟩
 ·obtain ⟨b, c, hv, _, _, hl, _⟩ := Lst.own plC_len h.pl
  have e : m.pa = b := by simpa using (Value.slice.inj hv).1
  rw [e]
  exact hl (by omega)
 ·obtain ⟨b, c, hv, _, _, hl, _⟩ := Lst.own gtC_len h.gt
  have e : m.ga = b := by simpa using (Value.slice.inj hv).1
  rw [e]
  exact hl (by omega)
def FormOut (m : Fm) (pf base : Nat) (W : World) (r : Fe × Int) (e : Ending) (w' : World) : Prop :=
 e = endV r.2 ∧ Kept (m.own pf) W w' ∧ (r.2 = 0 → ∃ m' : Fm, m'.f = r.1 ∧ PSt m' pf base w' ∧ ∀ k, m'.own pf k → m.own pf k ∨ W.heap.size ≤ k)
theorem FormOut.no {m : Fm} {pf base : Nat} {W w' : World} {r : Fe × Int} {E : Int} (hr : r.2 = E) (hE : E ≠ 0) (hb : Below W.heap.size W w') : FormOut m pf base W r (.panicked (givesUp E)) w' :=
 ⟨by rw [hr, endV_no hE], Kept.of_below hb, fun h => absurd (hr.symm.trans h) hE⟩
def Stays.one {α : Type} (enc : α → List Value) (x : α) : Stays := ⟨fun v W => ∃ b, v = .slice (some ⟨b, 0, none⟩) 1 1 ∧ CellsAt W b 0 (enc x), fun _ _ _ ⟨b, e, h⟩ hb => ⟨b, e, h.later hb⟩⟩
theorem one_add {W : World} {b : Nat} {vs : List Value} (h : CellsAt W b 0 vs) : ∀ j u, vs[j]? = some u → W.cell? ((⟨b, 0, none⟩ : Addr).add j) = some u := fun j u hj => by
 have := h j u hj
 by_cases h0 : j = 0
 ·subst h0
  simpa [Addr.add] using this
 ·simpa [Addr.add, h0] using this
theorem new_cell (w : World) (cs : List Value) (t : TypeId) {j : Nat} {u : Value} (h : cs[j]? = some u) : (w.alloc (.cells cs.toArray t)).cell? ⟨w.heap.size, j, none⟩ = some u := by
 have := cells_new w cs.toArray t j u (by simpa using h)
 by_cases h0 : j = 0
 ·subst h0
  simpa [Addr.add] using this
 ·simpa [Addr.add, h0] using this
theorem new_frozen (w : World) (cs : List Value) (t : TypeId) {j : Nat} {u : Value} (_h : cs[j]? = some u) : (w.alloc (.cells cs.toArray t)).frozen? ⟨w.heap.size, j, none⟩ = false := by
 simp only [World.frozen?, heap_alloc_new]
 simp
def Stays.no : Stays := ⟨fun _ _ => False, fun _ _ _ h _ => h⟩
def Stays.fresh (n0 : Nat) (vs : List Value) : Stays := ⟨fun v W => ∃ b, v = .pointer (some ⟨b, 0, none⟩) ∧ n0 ≤ b ∧ ∀ j u, vs[j]? = some u → W.cell? ⟨b, j, none⟩ = some u ∧ W.frozen? ⟨b, j, none⟩ = false,
 fun _ _ _ ⟨b, e, h1, h2⟩ hb => ⟨b, e, h1, fun j u hj => ⟨((bcell hb).1 _ _ (cell_lt (h2 j u hj).1)).trans (h2 j u hj).1, ((bcell hb).2 _ _ (cell_lt (h2 j u hj).1)).trans (h2 j u hj).2⟩⟩⟩
def gtZ : List Value := [.string ⟨#[]⟩, .int .i64 0, .int .i64 0, .int .i64 0]
end Go.Proofs.YtlppdgaogdpajaaGreatDoor
