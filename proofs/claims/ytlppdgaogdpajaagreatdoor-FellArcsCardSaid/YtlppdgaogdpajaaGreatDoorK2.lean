/- This text is a part of the proof: Loop, RegionIn, Post, Shut, Ints, Open, Lists, Lst. -/
import Derived.Test.YtlppdgaogdpajaaGreatDoorK1
import Derived.Lib.SmallJoins
import Derived.LoopIn
import Derived.LoopNIn
import Derived.OwnWalkIn
import Derived.RangeFuncBound
import Derived.RangeFuncNested
import Derived.Shelf.RegionOpen
namespace Go.Proofs.YtlppdgaogdpajaaGreatDoor
open Go.RowKit
theorem RoundIn.deep {m m' : Nat} {P : Program} {l : Nat} {f : FuncId} {tmps : Array Value} {assign body : Code} {w : World} {R : Ending → World → Prop} (h : RoundIn Fence.wide m P l f tmps assign body w R) : RoundIn Fence.wide m' P l f tmps assign body w R :=
 ⟨h.1, fun c cs _ => h.2 c cs (room_wide _)⟩
structure Kept (O : Nat → Prop) (A C : World) : Prop where
 os : C.os = A.os
 tape : C.tape = A.tape
 output : C.output = A.output
 size : A.heap.size ≤ C.heap.size
 block : ∀ k, k < A.heap.size → ¬ O k → C.heap[k]? = A.heap[k]?
theorem Kept.refl (O : Nat → Prop) (A : World) : Kept O A A := ⟨rfl, rfl, rfl, Nat.le_refl _, fun _ _ _ => rfl⟩
theorem Kept.trans {O O' : Nat → Prop} {A B C : World} (h : Kept O A B) (k : Kept O' B C) (hO : ∀ j, j < A.heap.size → O' j → O j) : Kept O A C :=
 ⟨k.os.trans h.os, k.tape.trans h.tape, k.output.trans h.output, Nat.le_trans h.size k.size, fun j hj hn => (k.block j (Nat.lt_of_lt_of_le hj h.size) (fun x => hn (hO j hj x))).trans (h.block j hj hn)⟩
theorem Kept.wider {O O' : Nat → Prop} {A C : World} (h : Kept O A C) (hO : ∀ j, j < A.heap.size → O j → O' j) : Kept O' A C :=
 ⟨h.os, h.tape, h.output, h.size, fun k hk hn => h.block k hk (fun x => hn (hO k hk x))⟩
theorem Kept.of_below {O : Nat → Prop} {A C : World} (h : Below A.heap.size A C) : Kept O A C :=
 ⟨h.os, h.tape, h.output, h.size, fun k hk _ => h.block k hk⟩
theorem Kept.below {O : Nat → Prop} {n : Nat} {A C : World} (h : Kept O A C) (hn : n ≤ A.heap.size) (hO : ∀ k, O k → n ≤ k) : Below n A C :=
 ⟨h.os, h.tape, h.output, h.size, fun k hk => h.block k (Nat.lt_of_lt_of_le hk hn) (fun x => by have := hO k x; omega)⟩
theorem Kept.alloc {O : Nat → Prop} {A C : World} (h : Kept O A C) (o : Obj) : Kept O A (C.alloc o) :=
 ⟨h.os, h.tape, h.output, Nat.le_trans h.size (by simp), fun k hk hn => (Below.heap_alloc C o k (Nat.lt_of_lt_of_le hk h.size)).trans (h.block k hk hn)⟩
theorem Kept.drew {O : Nat → Prop} {A C : World} (h : Kept O A C) : Kept O A C.drew := ⟨h.os, h.tape, h.output, h.size, h.block⟩
theorem Kept.setCell {O : Nat → Prop} {A C : World} (h : Kept O A C) {p : Addr} (hp : O p.block ∨ A.heap.size ≤ p.block) (v : Value) : Kept O A (C.setCell p v) :=
  ⟨h.os, h.tape, h.output, by simpa [World.setCell] using h.size, fun k hk hn => (Below.heap_setCell C p v k (by
    rintro rfl
    rcases hp with hp | hp
    · exact hn hp
    · omega)).trans (h.block k hk hn)⟩
theorem Kept.put {O : Nat → Prop} {A C : World} (h : Kept O A C) {l : Nat} (hl : O l ∨ A.heap.size ≤ l) (o : Obj) : Kept O A (C.putObj l o) :=
  ⟨h.os, h.tape, h.output, by simpa using h.size, fun k hk hn => (World.putObj_heap_other (by
    rintro rfl
    rcases hl with hl | hl
    · exact hn hl
    · omega)).trans (h.block k hk hn)⟩
theorem Kept.cell {O : Nat → Prop} {A C : World} (h : Kept O A C) {b o : Nat} {v : Value} (hn : ¬ O b) (hc : A.cell? ⟨b, o, none⟩ = some v) : C.cell? ⟨b, o, none⟩ = some v := by
 have := h.block b (cell_lt hc) hn
 simpa [World.cell?, this] using hc
theorem Kept.frozen {O : Nat → Prop} {A C : World} (h : Kept O A C) {b o : Nat} (hb : b < A.heap.size) (hn : ¬ O b) : C.frozen? ⟨b, o, none⟩ = A.frozen? ⟨b, o, none⟩ := by
 have := h.block b hb hn
 simp [World.frozen?, this]
def Abide (B : Nat) (J : (Nat → Prop) → World → Prop) : Prop :=
 ∀ O A C, J O A → Kept (fun k => B ≤ k ∧ ¬ O k) A C → J O C
def Round {α : Type} (J : List α → (Nat → Prop) → World → Prop) (Jx : (Nat → Prop) → World → Prop) (xs : List α) (O : Nat → Prop) (A : World) (e : Ending) (C : World) : Prop :=
 ∃ O', (∀ k, O' k → O k ∨ A.heap.size ≤ k) ∧ Kept O A C ∧ ((e = .returned (.bool true) ∧ J xs O' C) ∨ (e = .returned (.bool false) ∧ Jx O' C))
def BodyPost {α : Type} (I : List α → (Nat → Prop) → World → Prop) (Ix : Code → (Nat → Prop) → World → Prop) (xs : List α) (O : Nat → Prop) (A : World) : Exit → Act → World → Prop
 | .normal, _, C => ∃ O', (∀ k, O' k → O k ∨ A.heap.size ≤ k) ∧ Kept O A C ∧ I xs O' C
 | .ret, _, C => ∃ O', (∀ k, O' k → O k ∨ A.heap.size ≤ k) ∧ Kept O A C ∧ Ix .ret O' C
 | .exit id, _, C => ∃ O', (∀ k, O' k → O k ∨ A.heap.size ≤ k) ∧ Kept O A C ∧ Ix (.exit id) O' C
 | _, _, _ => False
theorem Abide.put {B : Nat} {J : (Nat → Prop) → World → Prop} (h : Abide B J) {O : Nat → Prop} {A : World} (hj : J O A) {l : Nat} (hl : B ≤ l) (hO : ¬ O l) (o : Obj) : J O (A.putObj l o) :=
 h O A _ hj ((Kept.refl _ _).put (.inl ⟨hl, hO⟩) o)
theorem Abide.alloc {B : Nat} {J : (Nat → Prop) → World → Prop} (h : Abide B J) {O : Nat → Prop} {A : World} (hj : J O A) (o : Obj) : J O (A.alloc o) :=
 h O A _ hj ((Kept.refl _ _).alloc o)
theorem end_collected {F : Fence} {n D : Nat} {tmps : Array Value} {fn : Func} {C : World} {post : Ending → World → Prop} {v : Value} (hd : C.heap[D]? = some (.deferred (some [])))
  (hr : ∀ C2, Kept (fun k => k = D) C C2 → (results fn tmps).run Tryz.prog C2 = .ok v C2) (hp : ∀ C2, Kept (fun k => k = D) C C2 → post (.returned v) C2) (e : Exit) (he : e = .normal ∨ e = .ret) :
  bodyPostM F n Tryz.prog fn post e { tmps, defers := [{ target := .collected D, args := #[] }] } C := by
 have hk : Kept (fun k => k = D) C (C.putObj D (.deferred none)) := Kept.put (l := D) (Kept.refl (fun k => k = D) C) (.inl rfl) _
 rcases he with rfl | rfl <;> exact ⟨by simp, .inl ⟨_, _, rfl, run_takeDeferred hd, v, hr _ hk, hp _ hk⟩⟩
end Go.Proofs.YtlppdgaogdpajaaGreatDoor
namespace Go.Proofs.YtlppdgaogdpajaaGreatDoor
open Go.RowKit Go.Shelf
section
variable {P : Program} {ops : Array Oper} {md : Region.Mode} {C : World → Prop} {lp n : Nat}
def plainOp (o : Oper) : Bool := match o.op with | .defer _ => false | _ => true
theorem plainOp_ne {o : Oper} (h : plainOp o = true) : ∀ c, o.op ≠ .defer c := by
 intro c hc
 simp [plainOp, hc] at h
theorem wpIn_of_quiet_round {o : Oper} {a : Act} {K : Act → Prop} {K' : Act → World → Prop} {Q' : Exit → Act → World → Prop} {w : World} (hd : ∀ c, o.op ≠ .defer c) (hw : C w) (h : ∀ a w', C w' → K a → K' a w')
  (hh : o.quiet P a C K) : o.wpIn (Fence.wide.inRound lp) n P a w K' Q' := by
 obtain ⟨v, h1, h2⟩ := hh
 have h3 := h1 w hw
 unfold Oper.quietAt at h3
 unfold Oper.wpIn
 refine ⟨fun _ _ => trivial, ?_⟩
 rw [show (Fence.wide.inRound lp).round = some lp from rfl, Oper.semAt_some lp _ _ hd]
 generalize (execOp a.eval o).run P w = r at *
 cases r with
 | ok x w' =>
  cases x <;> simp only [Oper.quietUpon] at h3 <;> simp only [Oper.uponIn]
  case value u =>
   obtain ⟨e1, e2⟩ := h3
   rw [e1, e2]
   exact h _ _ hw h2
  case skip =>
   obtain ⟨e1, e2⟩ := h3
   rw [e1, ← e2]
   exact h _ _ hw h2
  case enter f args =>
   obtain ⟨e1, hc⟩ := h3
   rw [e1]
   exact ⟨fun h => (by cases h), (CallsIn.inRound lp (callsIn_wide.2 hc)).mono fun e w'' ⟨he, hw''⟩ => by subst he; exact h _ _ hw'' h2⟩
 | halt x w' => simp only [Oper.quietUpon] at h3
theorem wpOpIn_of_qOp_round {i : Nat} {a : Act} {K : Act → Prop} {K' : Act → World → Prop} {Q' : Exit → Act → World → Prop} {w : World} (hd : ∀ o ∈ ops, ∀ c, o.op ≠ .defer c) (hC : C w) (h : ∀ a w', C w' → K a → K' a w')
  (hh : qOp P ops C i K a) : wpOpIn (Fence.wide.inRound lp) n P ops Q' i K' a w := by
 unfold qOp at hh
 unfold wpOpIn
 split
 ·rename_i ho; simp only [ho] at hh; exact h _ _ hC hh
 ·rename_i o ho
  simp only [ho] at hh
  split
  ·rename_i hw; simp only [hw, if_true] at hh; exact wpIn_of_quiet_round (hd o (Array.mem_of_getElem? ho)) hC h hh
  ·rename_i hw; simp only [hw] at hh; exact ⟨fun _ _ => trivial, h _ _ hC hh⟩
end
theorem ownsRow_kept {O : Nat → Prop} {A C : World} {base : Nat} {e : TypeId} {size : Nat} {v : Value} {n : Nat} {xs : List Value} (h : A.ownsRow base e size v n xs) (hk : Kept O A C) (hn : ∀ g, v.ownBlock = some g → ¬ O g) : C.ownsRow base e size v n xs := by
 refine ⟨h.1, ?_⟩
 rcases h.2 with hx | ⟨g, cap, cur, rfl, hb, hgg, rest⟩
 ·exact .inl hx
 ·exact .inr ⟨g, cap, cur, rfl, hb, (hk.block g (Array.getElem?_eq_some_iff.1 hgg).1 (hn g rfl)).trans hgg, rest⟩
theorem kept_of_grown {A C : World} {r : Option Nat} (h : A.grownBy C r) : Kept (fun k => r = some k) A C :=
 ⟨h.os, h.tape, h.output, h.size, fun k hk hn => h.block k hk (fun e => hn e.symm)⟩
structure Coll (B : Nat) (A : World) (Ds : List Nat) : Prop where
 nodup : Ds.Nodup
 mem : ∀ D ∈ Ds, B ≤ D ∧ A.heap[D]? = some (.deferred (some []))
theorem Coll.kept {B : Nat} {O : Nat → Prop} {A C : World} {Ds : List Nat} (h : Coll B A Ds) (hk : Kept O A C) (hn : ∀ D ∈ Ds, ¬ O D) : Coll B C Ds :=
 ⟨h.nodup, fun D hD => ⟨(h.mem D hD).1, (hk.block D (Array.getElem?_eq_some_iff.1 (h.mem D hD).2).1 (hn D hD)).trans (h.mem D hD).2⟩⟩
theorem Coll.lt {B : Nat} {A : World} {Ds : List Nat} (h : Coll B A Ds) : ∀ D ∈ Ds, D < A.heap.size := fun D hD => (Array.getElem?_eq_some_iff.1 (h.mem D hD).2).1
theorem Coll.cons {B D : Nat} {A : World} {Ds : List Nat} (h : Coll B A Ds) (hB : B ≤ D) (hD : A.heap[D]? = some (.deferred (some []))) (hn : D ∉ Ds) : Coll B A (D :: Ds) :=
 ⟨List.nodup_cons.2 ⟨hn, h.nodup⟩, fun E hE => by
  rcases List.mem_cons.1 hE with rfl | hE
  ·exact ⟨hB, hD⟩
  ·exact h.mem E hE⟩
end Go.Proofs.YtlppdgaogdpajaaGreatDoor
namespace Go.Proofs.YtlppdgaogdpajaaGreatDoor
open Go.ChangeShapes Go.WideShapes Go.ChangeAt Go.RowKit
theorem own : ownKnob Tryz.prog.godebug = none := by kernel_rfl
end Go.Proofs.YtlppdgaogdpajaaGreatDoor
namespace Go.Proofs.YtlppdgaogdpajaaGreatDoor
open Go.Joins Go.ChangeShapes Go.WideShapes Go.RowKit Go.Deep
theorem laidOut : laidOutB Tryz.prog = true := by kernel_rfl
theorem stays {H : Type} {enc : TypeId × Value → H} {W : World} {t : TypeId} {v : Value} {d : DataW H} (h : DataW.Trod enc Tryz.prog W 0 (fun _ => true) true t v d []) (hr : Tryz.prog.readableRec t = true) (ht : decide (t < Tryz.prog.types.size) = true) (W' : World) (sp : Nat → Bool) :
  DataW.Trod enc Tryz.prog W' 0 sp true t v d [] :=
 WideElems.Trod_stays laidOut hr (of_decide_eq_true ht) h (fun _ hx => by cases hx) (fun _ hx => by cases hx)
end Go.Proofs.YtlppdgaogdpajaaGreatDoor
namespace Go.Proofs.YtlppdgaogdpajaaGreatDoor
open Go.RowKit Go.Shelf
attribute [local go_sem] Oper.semAt_some
def it (l : List Int) (k : Nat) : Int := l[k]?.getD 0
def Ints (w : World) (a : Option Addr) (l : List Int) : Prop := l.length ≤ 1000000000000 ∧ (l ≠ [] → ∃ b o, a = some ⟨b, o, none⟩ ∧ ∀ k, k < l.length → w.cell? ⟨b, o + k, none⟩ = some (.int .i64 (it l k)))
theorem Ints.later {w w1 : World} {a : Option Addr} {l : List Int} (h : Ints w a l) (hb : Below w.heap.size w w1) : Ints w1 a l :=
 ⟨h.1, fun hl => by obtain ⟨b, o, ha, hk⟩ := h.2 hl; exact ⟨b, o, ha, fun k hk' => ((bcell hb).1 _ _ (cell_lt (hk k hk'))).trans (hk k hk')⟩⟩
end Go.Proofs.YtlppdgaogdpajaaGreatDoor
namespace Go.Proofs.YtlppdgaogdpajaaGreatDoor
open Go.Joins Go.ChangeShapes Go.WideShapes Go.RowKit Go.Deep
section
variable {H : Type} {enc : TypeId × Value → H} {P : Program} {w : World} {base : Nat} {spare : Nat → Bool} {held : Bool}
theorem open_slice_fields {t e : TypeId} {fs : Array Field} {fuel : Nat} {cs : List Value} {x : DataW H × List MemPlace} (ht : P.underlying t = some (.slice e)) (he : P.underlying e = some (.struct fs))
  (hone : oneCellFields P fs = true) (hC : P.cellsOf e = fs.size) (h : DataW.trod enc P w base spare held fuel t cs = some x) :
  (cs = [.slice none 0 0] ∧ x = (.nil, [])) ∨
  ∃ (a : Addr) (len cap m : Nat) (D : Nat → DataW H) (Pl : Nat → List MemPlace), cs = [.slice (some a) len cap] ∧ base ≤ a.block ∧ len ≤ cap ∧ cap ≤ maxLen ∧ m = (if spare a.block then cap else len) ∧
   x = (.slice ((List.range len).map D) ((List.range (m - len)).map fun j => D (len + j)), MemPlace.row a (m * fs.size) ++ (List.range m).flatMap Pl) ∧
   ∀ i, i < m → ∃ (ys : List (DataW H × List MemPlace)) (n : Nat), D i = .agg (ys.map (·.1)) ∧ Pl i = ys.flatMap (·.2) ∧ ys.length = fs.size ∧
    ∀ (j : Nat) (f : Field), fs[j]? = some f → ∃ (v : Value) (y : DataW H × List MemPlace), w.cell? (a.add (i * fs.size + j)) = some v ∧ ys[j]? = some y ∧ DataW.trod enc P w base spare held n f.type [v] = some y := by
 rcases open_slice ht h with h0 | ⟨a, len, cap, m, n, D, Pl, hcs, hb, hl, hm, hmm, hx, hi⟩
 ·exact .inl h0
 ·refine .inr ⟨a, len, cap, m, D, Pl, hcs, hb, hl, hm, hmm, by rw [hC] at hx; exact hx, fun i him => ?_⟩
  obtain ⟨cs', hc, ht'⟩ := hi i him
  rw [hC] at hc
  obtain ⟨ys, n', hn', hy, hlen, hyl, hf⟩ := DataW.trod_struct he ht'
  obtain ⟨_, hcl, hat⟩ := World.cells?_some hc
  simp only [Prod.mk.injEq] at hy
  refine ⟨ys, n', hy.1, hy.2, hyl, fun j f hj => ?_⟩
  obtain ⟨ho, hk⟩ := hone_of hone j f hj
  have hjl : j < fs.size := (Array.getElem?_eq_some_iff.1 hj).1
  have hcell := hat j hjl
  have hv : cs'[j]? = some (cs'[j]'(by omega)) := List.getElem?_eq_getElem (by omega)
  have h1 := hf j f hj
  rw [ho, hk] at h1
  have hone' : (cs'.drop j).take 1 = [cs'[j]'(by omega)] := by
   rw [List.drop_eq_getElem_cons (by omega)]
   rfl
  rw [hone'] at h1
  have hys : ys[j]? = some (ys[j]'(by omega)) := List.getElem?_eq_getElem (by omega)
  refine ⟨_, _, ?_, hys, h1.trans hys⟩
  rw [← Go.Deep.add_add, hcell, hv]
end
theorem list_of {α : Type} [Inhabited α] {n : Nat} {p : Nat → α → Prop} (h : ∀ i, i < n → ∃ x, p i x) : ∃ l : List α, l.length = n ∧ ∀ i, i < n → p i (l[i]?.getD default) := by
 obtain ⟨f, hf⟩ := choose_lt h
 refine ⟨(List.range n).map f, by simp, fun i hi => ?_⟩
 have : ((List.range n).map f)[i]?.getD default = f i := by simp [hi]
 rw [this]
 exact hf i hi
theorem add_cell (a : Addr) (b o n : Nat) (W : World) (v : Value) (e : a = ⟨b, o, none⟩) (h : W.cell? (a.add n) = some v) : W.cell? ⟨b, o + n, none⟩ = some v := by
 subst e
 unfold Addr.add at h
 split at h
 ·rename_i hn; subst hn; simpa using h
 ·exact h
theorem add_cell2 (a : Addr) (b o m n : Nat) (W : World) (v : Value) (e : a = ⟨b, o, none⟩) (h : W.cell? (a.add (m + n)) = some v) : W.cell? ⟨b, o + m + n, none⟩ = some v := by
 rw [Nat.add_assoc]
 exact add_cell a b o _ W v e h
theorem spot_of (a : Addr) (W : World) (v : Value) (h : W.cell? (a.add 0) = some v) : a = ⟨a.block, a.off, none⟩ := by
 have := World.cell?_spot h
 simp only [Addr.add, if_true] at this
 obtain ⟨b, o, s⟩ := a
 simp only at this
 subst this
 rfl
end Go.Proofs.YtlppdgaogdpajaaGreatDoor
namespace Go.Proofs.YtlppdgaogdpajaaGreatDoor
open Go.RowKit
theorem cells_new (w : World) (cs : Array Value) (t : TypeId) : ∀ j u, cs.toList[j]? = some u → (w.alloc (.cells cs t)).cell? ((⟨w.heap.size, 0, none⟩ : Addr).add j) = some u := by
 intro j u hj
 have h : ((⟨w.heap.size, 0, none⟩ : Addr).add j) = ⟨w.heap.size, j, none⟩ := by
  unfold Addr.add
  split
  ·rename_i e; subst e; rfl
  ·simp
 rw [h]
 have hj' : cs[j]? = some u := by simpa using hj
 have hn := World.alloc_heap_new w (.cells cs t)
 unfold World.cell?
 rw [hn]
 exact hj'
section
variable {α : Type} {enc : α → List Value} {n : Nat}
def cellsL (enc : α → List Value) (l : List α) : List Value := l.flatMap enc
theorem cellsL_snoc (l : List α) (x : α) : cellsL enc (l ++ [x]) = cellsL enc l ++ enc x := by simp [cellsL]
theorem cellsL_get (h : ∀ x, (enc x).length = n) (l : List α) (k j : Nat) (hj : j < n) (x : α) (hx : l[k]? = some x) : (cellsL enc l)[k * n + j]? = (enc x)[j]? := by
 induction l generalizing k with
 | nil => simp at hx
 | cons y l ih =>
  cases k with
  | zero =>
   simp only [List.getElem?_cons_zero, Option.some.injEq] at hx
   subst hx
   have : cellsL enc (y :: l) = enc y ++ cellsL enc l := by simp [cellsL]
   rw [this, Nat.zero_mul, Nat.zero_add, List.getElem?_append_left (by rw [h]; exact hj)]
  | succ k =>
   have e : cellsL enc (y :: l) = enc y ++ cellsL enc l := by simp [cellsL]
   have hx' : l[k]? = some x := by simpa using hx
   rw [e, List.getElem?_append_right (by rw [h, Nat.succ_mul]; omega), h, ← ih k hx']
   congr 1
   rw [Nat.succ_mul]
   omega
end
theorem own_nil (w : World) (base : Nat) (e : TypeId) (size : Nat) : w.ownsRow base e size (.slice none 0 0) 0 [] := ⟨by simp, .inl ⟨rfl, rfl⟩⟩
theorem own_below {w w1 : World} {base : Nat} {e : TypeId} {size n : Nat} {v : Value} {xs : List Value} (h : w.ownsRow base e size v n xs) (hb : Below w.heap.size w w1) : w1.ownsRow base e size v n xs :=
 ownsRow_kept h (Kept.of_below (O := fun _ => False) hb) (fun _ _ h => h)
theorem stuckHere {p : Prop} (h : Hid p) : p := h
theorem unHid {p : Prop} (h : p) : Hid p := h
def CellsAt (w : World) (b o : Nat) (vs : List Value) : Prop := ∀ j u, vs[j]? = some u → w.cell? ⟨b, o + j, none⟩ = some u
theorem CellsAt.later {w w1 : World} {b o : Nat} {vs : List Value} (h : CellsAt w b o vs) (hb : Below w.heap.size w w1) : CellsAt w1 b o vs :=
 fun j u hj => ((bcell hb).1 _ _ (cell_lt (h j u hj))).trans (h j u hj)
theorem CellsAt.kept {O : Nat → Prop} {w w1 : World} {b o : Nat} {vs : List Value} (h : CellsAt w b o vs) (hb : Kept O w w1) (hn : ¬ O b) : CellsAt w1 b o vs :=
 fun j u hj => hb.cell hn (h j u hj)
section
variable {α : Type} {enc : α → List Value} {n : Nat}
def Lst (enc : α → List Value) (n : Nat) (w : World) (a : Option Addr) (l : List α) : Prop :=
 l.length ≤ 1000000000000 ∧ (l ≠ [] → ∃ b o, a = some ⟨b, o, none⟩ ∧ ∀ k x, l[k]? = some x → CellsAt w b (o + k * n) (enc x))
theorem Lst.later {w w1 : World} {a : Option Addr} {l : List α} (h : Lst enc n w a l) (hb : Below w.heap.size w w1) : Lst enc n w1 a l :=
 ⟨h.1, fun hl => by obtain ⟨b, o, ha, hk⟩ := h.2 hl; exact ⟨b, o, ha, fun k x hx => (hk k x hx).later hb⟩⟩
theorem Lst.kept {O : Nat → Prop} {w w1 : World} {a : Option Addr} {l : List α} (h : Lst enc n w a l) (hb : Kept O w w1) (hn : ∀ b o, a = some ⟨b, o, none⟩ → ¬ O b) : Lst enc n w1 a l :=
 ⟨h.1, fun hl => by obtain ⟨b, o, ha, hk⟩ := h.2 hl; exact ⟨b, o, ha, fun k x hx => (hk k x hx).kept hb (hn b o ha)⟩⟩
theorem Lst.nil (w : World) (a : Option Addr) : Lst enc n w a [] := ⟨by simp, fun h => (h rfl).elim⟩
theorem Lst.take {w : World} {a : Option Addr} {l : List α} (h : Lst enc n w a l) (k : Nat) : Lst enc n w a (l.take k) :=
 ⟨Nat.le_trans (List.length_take_le' _ _) h.1, fun hl => by
  obtain ⟨b, o, ha, hk⟩ := h.2 (fun e => hl (by rw [e]; simp))
  refine ⟨b, o, ha, fun j x hx => hk j x ?_⟩
  rw [List.getElem?_take] at hx
  split at hx
  ·exact hx
  ·cases hx⟩
theorem Lst.at {w : World} {a : Option Addr} {l : List α} (h : Lst enc n w a l) {k : Nat} {x : α} (hx : l[k]? = some x) : ∃ b o, a = some ⟨b, o, none⟩ ∧ CellsAt w b (o + k * n) (enc x) := by
 obtain ⟨b, o, ha, hk⟩ := h.2 (fun e => by rw [e] at hx; simp at hx)
 exact ⟨b, o, ha, hk k x hx⟩
theorem some_at {l : List α} {k : Nat} (h : k < l.length) : ∃ x, l[k]? = some x := ⟨l[k], by simp [h]⟩
theorem take_some {l : List α} {k : Nat} {x : α} (h : l[k]? = some x) : l.take (k + 1) = l.take k ++ [x] := by
 rw [List.take_add_one, h]
 rfl
theorem some_mem {l : List α} {k : Nat} {x : α} (h : l[k]? = some x) : x ∈ l := List.mem_of_getElem? h
theorem some_lt {l : List α} {k : Nat} {x : α} (h : l[k]? = some x) : k < l.length := (List.getElem?_eq_some_iff.1 h).1
theorem Lst.new (hn : ∀ x, (enc x).length = n) (w : World) (l : List α) (t : TypeId) (h : l.length ≤ 1000000000000) : Lst enc n (w.alloc (.cells (cellsL enc l).toArray t)) (some ⟨w.heap.size, 0, none⟩) l :=
 ⟨h, fun _ => ⟨w.heap.size, 0, rfl, fun k x hx j u hu => by
  have hj : j < n := by rw [← hn x]; exact (List.getElem?_eq_some_iff.1 hu).1
  have h := cells_new w (cellsL enc l).toArray t (k * n + j) u (by simpa using (cellsL_get hn l k j hj x hx).trans hu)
  exact add_cell2 ⟨w.heap.size, 0, none⟩ _ _ _ j _ _ rfl (by simpa using h)⟩⟩
theorem Lst.own (hn : ∀ x, (enc x).length = n) {w : World} {base : Nat} {t : TypeId} {v : Value} {l : List α} (h : w.ownsRow base t n v l.length (cellsL enc l)) :
  ∃ b c, v = .slice b l.length c ∧ l.length ≤ c ∧ c ≤ maxLen ∧ (l.length ≤ 1000000000000 → Lst enc n w b l) ∧ ∀ g o, b = some ⟨g, o, none⟩ → base ≤ g ∧ g < w.heap.size := by
 rcases h.2 with ⟨rfl, h0⟩ | ⟨g, cap, cur, rfl, hbg, hg, hcap, hmx, _⟩
 ·obtain rfl : l = [] := List.length_eq_zero_iff.1 h0
  exact ⟨none, 0, rfl, by simp, by unfold maxLen; omega, fun h => Lst.nil _ _, fun g o h => by cases h⟩
 ·refine ⟨_, cap, rfl, hcap, hmx, fun hb => ⟨hb, fun _ => ⟨g, 0, rfl, fun k x hx j u hu => ?_⟩⟩, fun g' o h => by cases h; exact ⟨hbg, (Array.getElem?_eq_some_iff.1 hg).1⟩⟩
  have hj : j < n := by rw [← hn x]; exact (List.getElem?_eq_some_iff.1 hu).1
  exact add_cell2 ⟨g, 0, none⟩ _ _ _ j w _ rfl (h.cells (g := g) rfl _ _ ((cellsL_get hn l k j hj x hx).trans hu))
end
def strC (x : ByteArray) : List Value := [.string x]
theorem strC_len (x : ByteArray) : (strC x).length = 1 := rfl
abbrev Strs (w : World) (a : Option Addr) (l : List ByteArray) : Prop := Lst strC 1 w a l
theorem str_cell {w : World} {b o : Nat} {x : ByteArray} (h : CellsAt w b o (strC x)) : w.cell? ⟨b, o, none⟩ = some (.string x) := h 0 _ rfl
def numC (x : Int) : List Value := [.int .i64 x]
theorem numC_len (x : Int) : (numC x).length = 1 := rfl
abbrev Nums (w : World) (a : Option Addr) (l : List Int) : Prop := Lst numC 1 w a l
theorem num_cell {w : World} {b o : Nat} {x : Int} (h : CellsAt w b o (numC x)) : w.cell? ⟨b, o, none⟩ = some (.int .i64 x) := h 0 _ rfl
end Go.Proofs.YtlppdgaogdpajaaGreatDoor
