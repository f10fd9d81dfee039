/- This text is a part of the proof: Base, Carry, Model, ModelText, Via, Region. -/
import Derived.BigQuiet
import Derived.Deep.CutBlock
import Derived.Deep.DeepCutAuto
import Derived.Deep.RegionHeld3
import Derived.Handy
import Derived.Laws.EntriesVeiled
import Derived.Lib.AtoiAll
import Derived.Lib.ItoaMem
import Derived.Lib.Join
import Derived.Lib.SplitLaws
import Derived.Shelf.Abstract
import Derived.Test.YtlppdgaogdpajaaGreatDoorProg
import Derived.WalkLawsBesides
import Derived.WalkSpells
namespace Go.Proofs.YtlppdgaogdpajaaGreatDoor
open Go.RowKit
theorem bcell {W w1 : World} (hb : Below W.heap.size W w1) : (∀ b o, b < W.heap.size → w1.cell? ⟨b, o, none⟩ = W.cell? ⟨b, o, none⟩) ∧ (∀ b o, b < W.heap.size → w1.frozen? ⟨b, o, none⟩ = W.frozen? ⟨b, o, none⟩) :=
 ⟨fun b o h => hb.cell (p := ⟨b, o, none⟩) h, fun b o h => hb.frozen (p := ⟨b, o, none⟩) h⟩
theorem bthen {w W w' : World} (h : Below w.heap.size w W) (k : Below W.heap.size W w') : Below w.heap.size w w' := h.trans (k.mono h.size)
def Later (w : World) : Type := { W : World // Below w.heap.size w W }
instance (w : World) : Nonempty (Later w) := ⟨⟨w, Below.refl _ _⟩⟩
theorem Later.cell {w : World} {b o : Nat} (hb : b < w.heap.size) (x : Later w) : x.1.cell? ⟨b, o, none⟩ = w.cell? ⟨b, o, none⟩ := (bcell x.2).1 b o hb
theorem cell_lt {w : World} {b o : Nat} {v : Value} (h : w.cell? ⟨b, o, none⟩ = some v) : b < w.heap.size := World.block_lt_of_cell? w _ h
theorem later_cell {w : World} {b o : Nat} {v : Value} (h : w.cell? ⟨b, o, none⟩ = some v) : ∀ x : Later w, x.1.cell? ⟨b, o, none⟩ = some v := fun x => (x.cell (cell_lt h)).trans h
theorem wp_region_later {P : Program} {id : Nat} {Q : Exit → Act → World → Prop} {a : Act} {w : World} {l : List Oper} (w0 : World) (hm : P.follows .mixedOrders = true) (hB : Region.lexB .any l.toArray = true) (hw : Below w0.heap.size w0 w)
  (h : wpQuiet P l.toArray (fun w' => ∃ x : Later w0, w' = x.1) (fun a' => ∀ x : Later w0, Q .normal a' x.1) l a) : (Code.region id l.toArray true).wp P Q a w := by
 refine wp_region_quiet (C := fun w' => ∃ x : Later w0, w' = x.1) hm hB ⟨⟨_, hw.drew⟩, rfl⟩ ?_
 have e : (fun a' => ∀ w', (∃ x : Later w0, w' = x.1) → Q .normal a' w') = (fun a' => ∀ x : Later w0, Q .normal a' x.1) := by
  funext a'; exact propext ⟨fun h x => h _ ⟨x, rfl⟩, fun h w' ⟨x, hx⟩ => hx ▸ h x⟩
 rw [e]; simpa using h
theorem in_region {P : Program} {f : FuncId} {args : Array Value} {w0 : World} {x : Later w0} {v : Value}
  (h : Calls P f args x.1 fun e w' => e = .returned v ∧ Below x.1.heap.size x.1 w') : Calls P f args x.1 fun e w'' => e = .returned v ∧ ∃ y : Later w0, w'' = y.1 :=
 h.mono fun _ w' ⟨he, hb⟩ => ⟨he, ⟨w', bthen x.2 hb⟩, rfl⟩
abbrev Ent (g : FuncId) : Prop := ∀ args w, (callFunc g args).run Tryz.prog w = .ok (.enter g args) w
def Pred (g : FuncId) (env : Array Value) (dom : Int → Prop) (p : Int → Bool) (w : World) : Prop :=
 ∀ (W : World) (n : Int), dom n → Below w.heap.size w W → Calls Tryz.prog g (#[.int .i64 n] ++ env) W fun e w' => e = .returned (.bool (p n)) ∧ Below W.heap.size W w'
theorem Pred.later {g : FuncId} {env : Array Value} {dom : Int → Prop} {p : Int → Bool} {w w1 : World} (h : Pred g env dom p w) (hb : Below w.heap.size w w1) : Pred g env dom p w1 :=
 fun W n hn hW => h W n hn (bthen hb hW)
def Row (w : World) (a : Nat) (xs : List Int) : Prop := a < w.heap.size ∧ ∀ i, i < xs.length → w.cell? ⟨a, i, none⟩ = some (.int .i64 (xs[i]?.getD 0))
theorem Row.later {w w1 : World} {a : Nat} {xs : List Int} (h : Row w a xs) (hb : Below w.heap.size w w1) : Row w1 a xs :=
 ⟨Nat.lt_of_lt_of_le h.1 hb.size, fun i hi => ((bcell hb).1 a i h.1).trans (h.2 i hi)⟩
theorem cl1 {w W : World} {b o : Nat} {v : Value} (h : Below w.heap.size w W) (k : w.cell? ⟨b, o, none⟩ = some v) : W.cell? ⟨b, o, none⟩ = some v := ((bcell h).1 _ _ (cell_lt k)).trans k
theorem cl4 {w W : World} {b0 o0 b1 o1 b2 o2 b3 o3 : Nat} {v0 v1 v2 v3 : Value} (h : Below w.heap.size w W) (k0 : w.cell? ⟨b0, o0, none⟩ = some v0) (k1 : w.cell? ⟨b1, o1, none⟩ = some v1) (k2 : w.cell? ⟨b2, o2, none⟩ = some v2) (k3 : w.cell? ⟨b3, o3, none⟩ = some v3) : W.cell? ⟨b0, o0, none⟩ = some v0 ∧ W.cell? ⟨b1, o1, none⟩ = some v1 ∧ W.cell? ⟨b2, o2, none⟩ = some v2 ∧ W.cell? ⟨b3, o3, none⟩ = some v3 :=
 ⟨cl1 h k0, cl1 h k1, cl1 h k2, cl1 h k3⟩
theorem cy4 {w W : World} {b0 o0 b1 o1 b2 o2 b3 o3 : Nat} {v0 v1 v2 v3 : Value} (h : ∀ b o, b < w.heap.size → W.cell? ⟨b, o, none⟩ = w.cell? ⟨b, o, none⟩) (k0 : w.cell? ⟨b0, o0, none⟩ = some v0) (k1 : w.cell? ⟨b1, o1, none⟩ = some v1) (k2 : w.cell? ⟨b2, o2, none⟩ = some v2) (k3 : w.cell? ⟨b3, o3, none⟩ = some v3) : W.cell? ⟨b0, o0, none⟩ = some v0 ∧ W.cell? ⟨b1, o1, none⟩ = some v1 ∧ W.cell? ⟨b2, o2, none⟩ = some v2 ∧ W.cell? ⟨b3, o3, none⟩ = some v3 :=
 ⟨(h _ _ (cell_lt k0)).trans k0, (h _ _ (cell_lt k1)).trans k1, (h _ _ (cell_lt k2)).trans k2, (h _ _ (cell_lt k3)).trans k3⟩
theorem cl5 {w W : World} {b0 o0 b1 o1 b2 o2 b3 o3 b4 o4 : Nat} {v0 v1 v2 v3 v4 : Value} (h : Below w.heap.size w W) (k0 : w.cell? ⟨b0, o0, none⟩ = some v0) (k1 : w.cell? ⟨b1, o1, none⟩ = some v1) (k2 : w.cell? ⟨b2, o2, none⟩ = some v2) (k3 : w.cell? ⟨b3, o3, none⟩ = some v3) (k4 : w.cell? ⟨b4, o4, none⟩ = some v4) : W.cell? ⟨b0, o0, none⟩ = some v0 ∧ W.cell? ⟨b1, o1, none⟩ = some v1 ∧ W.cell? ⟨b2, o2, none⟩ = some v2 ∧ W.cell? ⟨b3, o3, none⟩ = some v3 ∧ W.cell? ⟨b4, o4, none⟩ = some v4 :=
 ⟨cl1 h k0, cl1 h k1, cl1 h k2, cl1 h k3, cl1 h k4⟩
theorem cy5 {w W : World} {b0 o0 b1 o1 b2 o2 b3 o3 b4 o4 : Nat} {v0 v1 v2 v3 v4 : Value} (h : ∀ b o, b < w.heap.size → W.cell? ⟨b, o, none⟩ = w.cell? ⟨b, o, none⟩) (k0 : w.cell? ⟨b0, o0, none⟩ = some v0) (k1 : w.cell? ⟨b1, o1, none⟩ = some v1) (k2 : w.cell? ⟨b2, o2, none⟩ = some v2) (k3 : w.cell? ⟨b3, o3, none⟩ = some v3) (k4 : w.cell? ⟨b4, o4, none⟩ = some v4) : W.cell? ⟨b0, o0, none⟩ = some v0 ∧ W.cell? ⟨b1, o1, none⟩ = some v1 ∧ W.cell? ⟨b2, o2, none⟩ = some v2 ∧ W.cell? ⟨b3, o3, none⟩ = some v3 ∧ W.cell? ⟨b4, o4, none⟩ = some v4 :=
 ⟨(h _ _ (cell_lt k0)).trans k0, (h _ _ (cell_lt k1)).trans k1, (h _ _ (cell_lt k2)).trans k2, (h _ _ (cell_lt k3)).trans k3, (h _ _ (cell_lt k4)).trans k4⟩
theorem cl6 {w W : World} {b0 o0 b1 o1 b2 o2 b3 o3 b4 o4 b5 o5 : Nat} {v0 v1 v2 v3 v4 v5 : Value} (h : Below w.heap.size w W) (k0 : w.cell? ⟨b0, o0, none⟩ = some v0) (k1 : w.cell? ⟨b1, o1, none⟩ = some v1) (k2 : w.cell? ⟨b2, o2, none⟩ = some v2) (k3 : w.cell? ⟨b3, o3, none⟩ = some v3) (k4 : w.cell? ⟨b4, o4, none⟩ = some v4) (k5 : w.cell? ⟨b5, o5, none⟩ = some v5) : W.cell? ⟨b0, o0, none⟩ = some v0 ∧ W.cell? ⟨b1, o1, none⟩ = some v1 ∧ W.cell? ⟨b2, o2, none⟩ = some v2 ∧ W.cell? ⟨b3, o3, none⟩ = some v3 ∧ W.cell? ⟨b4, o4, none⟩ = some v4 ∧ W.cell? ⟨b5, o5, none⟩ = some v5 :=
 ⟨cl1 h k0, cl1 h k1, cl1 h k2, cl1 h k3, cl1 h k4, cl1 h k5⟩
theorem cy6 {w W : World} {b0 o0 b1 o1 b2 o2 b3 o3 b4 o4 b5 o5 : Nat} {v0 v1 v2 v3 v4 v5 : Value} (h : ∀ b o, b < w.heap.size → W.cell? ⟨b, o, none⟩ = w.cell? ⟨b, o, none⟩) (k0 : w.cell? ⟨b0, o0, none⟩ = some v0) (k1 : w.cell? ⟨b1, o1, none⟩ = some v1) (k2 : w.cell? ⟨b2, o2, none⟩ = some v2) (k3 : w.cell? ⟨b3, o3, none⟩ = some v3) (k4 : w.cell? ⟨b4, o4, none⟩ = some v4) (k5 : w.cell? ⟨b5, o5, none⟩ = some v5) : W.cell? ⟨b0, o0, none⟩ = some v0 ∧ W.cell? ⟨b1, o1, none⟩ = some v1 ∧ W.cell? ⟨b2, o2, none⟩ = some v2 ∧ W.cell? ⟨b3, o3, none⟩ = some v3 ∧ W.cell? ⟨b4, o4, none⟩ = some v4 ∧ W.cell? ⟨b5, o5, none⟩ = some v5 :=
 ⟨(h _ _ (cell_lt k0)).trans k0, (h _ _ (cell_lt k1)).trans k1, (h _ _ (cell_lt k2)).trans k2, (h _ _ (cell_lt k3)).trans k3, (h _ _ (cell_lt k4)).trans k4, (h _ _ (cell_lt k5)).trans k5⟩
theorem cl7 {w W : World} {b0 o0 b1 o1 b2 o2 b3 o3 b4 o4 b5 o5 b6 o6 : Nat} {v0 v1 v2 v3 v4 v5 v6 : Value} (h : Below w.heap.size w W) (k0 : w.cell? ⟨b0, o0, none⟩ = some v0) (k1 : w.cell? ⟨b1, o1, none⟩ = some v1) (k2 : w.cell? ⟨b2, o2, none⟩ = some v2) (k3 : w.cell? ⟨b3, o3, none⟩ = some v3) (k4 : w.cell? ⟨b4, o4, none⟩ = some v4) (k5 : w.cell? ⟨b5, o5, none⟩ = some v5) (k6 : w.cell? ⟨b6, o6, none⟩ = some v6) : W.cell? ⟨b0, o0, none⟩ = some v0 ∧ W.cell? ⟨b1, o1, none⟩ = some v1 ∧ W.cell? ⟨b2, o2, none⟩ = some v2 ∧ W.cell? ⟨b3, o3, none⟩ = some v3 ∧ W.cell? ⟨b4, o4, none⟩ = some v4 ∧ W.cell? ⟨b5, o5, none⟩ = some v5 ∧ W.cell? ⟨b6, o6, none⟩ = some v6 :=
 ⟨cl1 h k0, cl1 h k1, cl1 h k2, cl1 h k3, cl1 h k4, cl1 h k5, cl1 h k6⟩
theorem cl8 {w W : World} {b0 o0 b1 o1 b2 o2 b3 o3 b4 o4 b5 o5 b6 o6 b7 o7 : Nat} {v0 v1 v2 v3 v4 v5 v6 v7 : Value} (h : Below w.heap.size w W) (k0 : w.cell? ⟨b0, o0, none⟩ = some v0) (k1 : w.cell? ⟨b1, o1, none⟩ = some v1) (k2 : w.cell? ⟨b2, o2, none⟩ = some v2) (k3 : w.cell? ⟨b3, o3, none⟩ = some v3) (k4 : w.cell? ⟨b4, o4, none⟩ = some v4) (k5 : w.cell? ⟨b5, o5, none⟩ = some v5) (k6 : w.cell? ⟨b6, o6, none⟩ = some v6) (k7 : w.cell? ⟨b7, o7, none⟩ = some v7) : W.cell? ⟨b0, o0, none⟩ = some v0 ∧ W.cell? ⟨b1, o1, none⟩ = some v1 ∧ W.cell? ⟨b2, o2, none⟩ = some v2 ∧ W.cell? ⟨b3, o3, none⟩ = some v3 ∧ W.cell? ⟨b4, o4, none⟩ = some v4 ∧ W.cell? ⟨b5, o5, none⟩ = some v5 ∧ W.cell? ⟨b6, o6, none⟩ = some v6 ∧ W.cell? ⟨b7, o7, none⟩ = some v7 :=
 ⟨cl1 h k0, cl1 h k1, cl1 h k2, cl1 h k3, cl1 h k4, cl1 h k5, cl1 h k6, cl1 h k7⟩
theorem cy8 {w W : World} {b0 o0 b1 o1 b2 o2 b3 o3 b4 o4 b5 o5 b6 o6 b7 o7 : Nat} {v0 v1 v2 v3 v4 v5 v6 v7 : Value} (h : ∀ b o, b < w.heap.size → W.cell? ⟨b, o, none⟩ = w.cell? ⟨b, o, none⟩) (k0 : w.cell? ⟨b0, o0, none⟩ = some v0) (k1 : w.cell? ⟨b1, o1, none⟩ = some v1) (k2 : w.cell? ⟨b2, o2, none⟩ = some v2) (k3 : w.cell? ⟨b3, o3, none⟩ = some v3) (k4 : w.cell? ⟨b4, o4, none⟩ = some v4) (k5 : w.cell? ⟨b5, o5, none⟩ = some v5) (k6 : w.cell? ⟨b6, o6, none⟩ = some v6) (k7 : w.cell? ⟨b7, o7, none⟩ = some v7) : W.cell? ⟨b0, o0, none⟩ = some v0 ∧ W.cell? ⟨b1, o1, none⟩ = some v1 ∧ W.cell? ⟨b2, o2, none⟩ = some v2 ∧ W.cell? ⟨b3, o3, none⟩ = some v3 ∧ W.cell? ⟨b4, o4, none⟩ = some v4 ∧ W.cell? ⟨b5, o5, none⟩ = some v5 ∧ W.cell? ⟨b6, o6, none⟩ = some v6 ∧ W.cell? ⟨b7, o7, none⟩ = some v7 :=
 ⟨(h _ _ (cell_lt k0)).trans k0, (h _ _ (cell_lt k1)).trans k1, (h _ _ (cell_lt k2)).trans k2, (h _ _ (cell_lt k3)).trans k3, (h _ _ (cell_lt k4)).trans k4, (h _ _ (cell_lt k5)).trans k5, (h _ _ (cell_lt k6)).trans k6, (h _ _ (cell_lt k7)).trans k7⟩
theorem cl9 {w W : World} {b0 o0 b1 o1 b2 o2 b3 o3 b4 o4 b5 o5 b6 o6 b7 o7 b8 o8 : Nat} {v0 v1 v2 v3 v4 v5 v6 v7 v8 : Value} (h : Below w.heap.size w W) (k0 : w.cell? ⟨b0, o0, none⟩ = some v0) (k1 : w.cell? ⟨b1, o1, none⟩ = some v1) (k2 : w.cell? ⟨b2, o2, none⟩ = some v2) (k3 : w.cell? ⟨b3, o3, none⟩ = some v3) (k4 : w.cell? ⟨b4, o4, none⟩ = some v4) (k5 : w.cell? ⟨b5, o5, none⟩ = some v5) (k6 : w.cell? ⟨b6, o6, none⟩ = some v6) (k7 : w.cell? ⟨b7, o7, none⟩ = some v7) (k8 : w.cell? ⟨b8, o8, none⟩ = some v8) : W.cell? ⟨b0, o0, none⟩ = some v0 ∧ W.cell? ⟨b1, o1, none⟩ = some v1 ∧ W.cell? ⟨b2, o2, none⟩ = some v2 ∧ W.cell? ⟨b3, o3, none⟩ = some v3 ∧ W.cell? ⟨b4, o4, none⟩ = some v4 ∧ W.cell? ⟨b5, o5, none⟩ = some v5 ∧ W.cell? ⟨b6, o6, none⟩ = some v6 ∧ W.cell? ⟨b7, o7, none⟩ = some v7 ∧ W.cell? ⟨b8, o8, none⟩ = some v8 :=
 ⟨cl1 h k0, cl1 h k1, cl1 h k2, cl1 h k3, cl1 h k4, cl1 h k5, cl1 h k6, cl1 h k7, cl1 h k8⟩
theorem cl11 {w W : World} {b0 o0 b1 o1 b2 o2 b3 o3 b4 o4 b5 o5 b6 o6 b7 o7 b8 o8 b9 o9 b10 o10 : Nat} {v0 v1 v2 v3 v4 v5 v6 v7 v8 v9 v10 : Value} (h : Below w.heap.size w W) (k0 : w.cell? ⟨b0, o0, none⟩ = some v0) (k1 : w.cell? ⟨b1, o1, none⟩ = some v1) (k2 : w.cell? ⟨b2, o2, none⟩ = some v2) (k3 : w.cell? ⟨b3, o3, none⟩ = some v3) (k4 : w.cell? ⟨b4, o4, none⟩ = some v4) (k5 : w.cell? ⟨b5, o5, none⟩ = some v5) (k6 : w.cell? ⟨b6, o6, none⟩ = some v6) (k7 : w.cell? ⟨b7, o7, none⟩ = some v7) (k8 : w.cell? ⟨b8, o8, none⟩ = some v8) (k9 : w.cell? ⟨b9, o9, none⟩ = some v9) (k10 : w.cell? ⟨b10, o10, none⟩ = some v10) : W.cell? ⟨b0, o0, none⟩ = some v0 ∧ W.cell? ⟨b1, o1, none⟩ = some v1 ∧ W.cell? ⟨b2, o2, none⟩ = some v2 ∧ W.cell? ⟨b3, o3, none⟩ = some v3 ∧ W.cell? ⟨b4, o4, none⟩ = some v4 ∧ W.cell? ⟨b5, o5, none⟩ = some v5 ∧ W.cell? ⟨b6, o6, none⟩ = some v6 ∧ W.cell? ⟨b7, o7, none⟩ = some v7 ∧ W.cell? ⟨b8, o8, none⟩ = some v8 ∧ W.cell? ⟨b9, o9, none⟩ = some v9 ∧ W.cell? ⟨b10, o10, none⟩ = some v10 :=
 ⟨cl1 h k0, cl1 h k1, cl1 h k2, cl1 h k3, cl1 h k4, cl1 h k5, cl1 h k6, cl1 h k7, cl1 h k8, cl1 h k9, cl1 h k10⟩
theorem cy12 {w W : World} {b0 o0 b1 o1 b2 o2 b3 o3 b4 o4 b5 o5 b6 o6 b7 o7 b8 o8 b9 o9 b10 o10 b11 o11 : Nat} {v0 v1 v2 v3 v4 v5 v6 v7 v8 v9 v10 v11 : Value} (h : ∀ b o, b < w.heap.size → W.cell? ⟨b, o, none⟩ = w.cell? ⟨b, o, none⟩) (k0 : w.cell? ⟨b0, o0, none⟩ = some v0) (k1 : w.cell? ⟨b1, o1, none⟩ = some v1) (k2 : w.cell? ⟨b2, o2, none⟩ = some v2) (k3 : w.cell? ⟨b3, o3, none⟩ = some v3) (k4 : w.cell? ⟨b4, o4, none⟩ = some v4) (k5 : w.cell? ⟨b5, o5, none⟩ = some v5) (k6 : w.cell? ⟨b6, o6, none⟩ = some v6) (k7 : w.cell? ⟨b7, o7, none⟩ = some v7) (k8 : w.cell? ⟨b8, o8, none⟩ = some v8) (k9 : w.cell? ⟨b9, o9, none⟩ = some v9) (k10 : w.cell? ⟨b10, o10, none⟩ = some v10) (k11 : w.cell? ⟨b11, o11, none⟩ = some v11) : W.cell? ⟨b0, o0, none⟩ = some v0 ∧ W.cell? ⟨b1, o1, none⟩ = some v1 ∧ W.cell? ⟨b2, o2, none⟩ = some v2 ∧ W.cell? ⟨b3, o3, none⟩ = some v3 ∧ W.cell? ⟨b4, o4, none⟩ = some v4 ∧ W.cell? ⟨b5, o5, none⟩ = some v5 ∧ W.cell? ⟨b6, o6, none⟩ = some v6 ∧ W.cell? ⟨b7, o7, none⟩ = some v7 ∧ W.cell? ⟨b8, o8, none⟩ = some v8 ∧ W.cell? ⟨b9, o9, none⟩ = some v9 ∧ W.cell? ⟨b10, o10, none⟩ = some v10 ∧ W.cell? ⟨b11, o11, none⟩ = some v11 :=
 ⟨(h _ _ (cell_lt k0)).trans k0, (h _ _ (cell_lt k1)).trans k1, (h _ _ (cell_lt k2)).trans k2, (h _ _ (cell_lt k3)).trans k3, (h _ _ (cell_lt k4)).trans k4, (h _ _ (cell_lt k5)).trans k5, (h _ _ (cell_lt k6)).trans k6, (h _ _ (cell_lt k7)).trans k7, (h _ _ (cell_lt k8)).trans k8, (h _ _ (cell_lt k9)).trans k9, (h _ _ (cell_lt k10)).trans k10, (h _ _ (cell_lt k11)).trans k11⟩
theorem cl13 {w W : World} {b0 o0 b1 o1 b2 o2 b3 o3 b4 o4 b5 o5 b6 o6 b7 o7 b8 o8 b9 o9 b10 o10 b11 o11 b12 o12 : Nat} {v0 v1 v2 v3 v4 v5 v6 v7 v8 v9 v10 v11 v12 : Value} (h : Below w.heap.size w W) (k0 : w.cell? ⟨b0, o0, none⟩ = some v0) (k1 : w.cell? ⟨b1, o1, none⟩ = some v1) (k2 : w.cell? ⟨b2, o2, none⟩ = some v2) (k3 : w.cell? ⟨b3, o3, none⟩ = some v3) (k4 : w.cell? ⟨b4, o4, none⟩ = some v4) (k5 : w.cell? ⟨b5, o5, none⟩ = some v5) (k6 : w.cell? ⟨b6, o6, none⟩ = some v6) (k7 : w.cell? ⟨b7, o7, none⟩ = some v7) (k8 : w.cell? ⟨b8, o8, none⟩ = some v8) (k9 : w.cell? ⟨b9, o9, none⟩ = some v9) (k10 : w.cell? ⟨b10, o10, none⟩ = some v10) (k11 : w.cell? ⟨b11, o11, none⟩ = some v11) (k12 : w.cell? ⟨b12, o12, none⟩ = some v12) : W.cell? ⟨b0, o0, none⟩ = some v0 ∧ W.cell? ⟨b1, o1, none⟩ = some v1 ∧ W.cell? ⟨b2, o2, none⟩ = some v2 ∧ W.cell? ⟨b3, o3, none⟩ = some v3 ∧ W.cell? ⟨b4, o4, none⟩ = some v4 ∧ W.cell? ⟨b5, o5, none⟩ = some v5 ∧ W.cell? ⟨b6, o6, none⟩ = some v6 ∧ W.cell? ⟨b7, o7, none⟩ = some v7 ∧ W.cell? ⟨b8, o8, none⟩ = some v8 ∧ W.cell? ⟨b9, o9, none⟩ = some v9 ∧ W.cell? ⟨b10, o10, none⟩ = some v10 ∧ W.cell? ⟨b11, o11, none⟩ = some v11 ∧ W.cell? ⟨b12, o12, none⟩ = some v12 :=
 ⟨cl1 h k0, cl1 h k1, cl1 h k2, cl1 h k3, cl1 h k4, cl1 h k5, cl1 h k6, cl1 h k7, cl1 h k8, cl1 h k9, cl1 h k10, cl1 h k11, cl1 h k12⟩
theorem cy14 {w W : World} {b0 o0 b1 o1 b2 o2 b3 o3 b4 o4 b5 o5 b6 o6 b7 o7 b8 o8 b9 o9 b10 o10 b11 o11 b12 o12 b13 o13 : Nat} {v0 v1 v2 v3 v4 v5 v6 v7 v8 v9 v10 v11 v12 v13 : Value} (h : ∀ b o, b < w.heap.size → W.cell? ⟨b, o, none⟩ = w.cell? ⟨b, o, none⟩) (k0 : w.cell? ⟨b0, o0, none⟩ = some v0) (k1 : w.cell? ⟨b1, o1, none⟩ = some v1) (k2 : w.cell? ⟨b2, o2, none⟩ = some v2) (k3 : w.cell? ⟨b3, o3, none⟩ = some v3) (k4 : w.cell? ⟨b4, o4, none⟩ = some v4) (k5 : w.cell? ⟨b5, o5, none⟩ = some v5) (k6 : w.cell? ⟨b6, o6, none⟩ = some v6) (k7 : w.cell? ⟨b7, o7, none⟩ = some v7) (k8 : w.cell? ⟨b8, o8, none⟩ = some v8) (k9 : w.cell? ⟨b9, o9, none⟩ = some v9) (k10 : w.cell? ⟨b10, o10, none⟩ = some v10) (k11 : w.cell? ⟨b11, o11, none⟩ = some v11) (k12 : w.cell? ⟨b12, o12, none⟩ = some v12) (k13 : w.cell? ⟨b13, o13, none⟩ = some v13) : W.cell? ⟨b0, o0, none⟩ = some v0 ∧ W.cell? ⟨b1, o1, none⟩ = some v1 ∧ W.cell? ⟨b2, o2, none⟩ = some v2 ∧ W.cell? ⟨b3, o3, none⟩ = some v3 ∧ W.cell? ⟨b4, o4, none⟩ = some v4 ∧ W.cell? ⟨b5, o5, none⟩ = some v5 ∧ W.cell? ⟨b6, o6, none⟩ = some v6 ∧ W.cell? ⟨b7, o7, none⟩ = some v7 ∧ W.cell? ⟨b8, o8, none⟩ = some v8 ∧ W.cell? ⟨b9, o9, none⟩ = some v9 ∧ W.cell? ⟨b10, o10, none⟩ = some v10 ∧ W.cell? ⟨b11, o11, none⟩ = some v11 ∧ W.cell? ⟨b12, o12, none⟩ = some v12 ∧ W.cell? ⟨b13, o13, none⟩ = some v13 :=
 ⟨(h _ _ (cell_lt k0)).trans k0, (h _ _ (cell_lt k1)).trans k1, (h _ _ (cell_lt k2)).trans k2, (h _ _ (cell_lt k3)).trans k3, (h _ _ (cell_lt k4)).trans k4, (h _ _ (cell_lt k5)).trans k5, (h _ _ (cell_lt k6)).trans k6, (h _ _ (cell_lt k7)).trans k7, (h _ _ (cell_lt k8)).trans k8, (h _ _ (cell_lt k9)).trans k9, (h _ _ (cell_lt k10)).trans k10, (h _ _ (cell_lt k11)).trans k11, (h _ _ (cell_lt k12)).trans k12, (h _ _ (cell_lt k13)).trans k13⟩
theorem cy15 {w W : World} {b0 o0 b1 o1 b2 o2 b3 o3 b4 o4 b5 o5 b6 o6 b7 o7 b8 o8 b9 o9 b10 o10 b11 o11 b12 o12 b13 o13 b14 o14 : Nat} {v0 v1 v2 v3 v4 v5 v6 v7 v8 v9 v10 v11 v12 v13 v14 : Value} (h : ∀ b o, b < w.heap.size → W.cell? ⟨b, o, none⟩ = w.cell? ⟨b, o, none⟩) (k0 : w.cell? ⟨b0, o0, none⟩ = some v0) (k1 : w.cell? ⟨b1, o1, none⟩ = some v1) (k2 : w.cell? ⟨b2, o2, none⟩ = some v2) (k3 : w.cell? ⟨b3, o3, none⟩ = some v3) (k4 : w.cell? ⟨b4, o4, none⟩ = some v4) (k5 : w.cell? ⟨b5, o5, none⟩ = some v5) (k6 : w.cell? ⟨b6, o6, none⟩ = some v6) (k7 : w.cell? ⟨b7, o7, none⟩ = some v7) (k8 : w.cell? ⟨b8, o8, none⟩ = some v8) (k9 : w.cell? ⟨b9, o9, none⟩ = some v9) (k10 : w.cell? ⟨b10, o10, none⟩ = some v10) (k11 : w.cell? ⟨b11, o11, none⟩ = some v11) (k12 : w.cell? ⟨b12, o12, none⟩ = some v12) (k13 : w.cell? ⟨b13, o13, none⟩ = some v13) (k14 : w.cell? ⟨b14, o14, none⟩ = some v14) : W.cell? ⟨b0, o0, none⟩ = some v0 ∧ W.cell? ⟨b1, o1, none⟩ = some v1 ∧ W.cell? ⟨b2, o2, none⟩ = some v2 ∧ W.cell? ⟨b3, o3, none⟩ = some v3 ∧ W.cell? ⟨b4, o4, none⟩ = some v4 ∧ W.cell? ⟨b5, o5, none⟩ = some v5 ∧ W.cell? ⟨b6, o6, none⟩ = some v6 ∧ W.cell? ⟨b7, o7, none⟩ = some v7 ∧ W.cell? ⟨b8, o8, none⟩ = some v8 ∧ W.cell? ⟨b9, o9, none⟩ = some v9 ∧ W.cell? ⟨b10, o10, none⟩ = some v10 ∧ W.cell? ⟨b11, o11, none⟩ = some v11 ∧ W.cell? ⟨b12, o12, none⟩ = some v12 ∧ W.cell? ⟨b13, o13, none⟩ = some v13 ∧ W.cell? ⟨b14, o14, none⟩ = some v14 :=
 ⟨(h _ _ (cell_lt k0)).trans k0, (h _ _ (cell_lt k1)).trans k1, (h _ _ (cell_lt k2)).trans k2, (h _ _ (cell_lt k3)).trans k3, (h _ _ (cell_lt k4)).trans k4, (h _ _ (cell_lt k5)).trans k5, (h _ _ (cell_lt k6)).trans k6, (h _ _ (cell_lt k7)).trans k7, (h _ _ (cell_lt k8)).trans k8, (h _ _ (cell_lt k9)).trans k9, (h _ _ (cell_lt k10)).trans k10, (h _ _ (cell_lt k11)).trans k11, (h _ _ (cell_lt k12)).trans k12, (h _ _ (cell_lt k13)).trans k13, (h _ _ (cell_lt k14)).trans k14⟩
theorem cy16 {w W : World} {b0 o0 b1 o1 b2 o2 b3 o3 b4 o4 b5 o5 b6 o6 b7 o7 b8 o8 b9 o9 b10 o10 b11 o11 b12 o12 b13 o13 b14 o14 b15 o15 : Nat} {v0 v1 v2 v3 v4 v5 v6 v7 v8 v9 v10 v11 v12 v13 v14 v15 : Value} (h : ∀ b o, b < w.heap.size → W.cell? ⟨b, o, none⟩ = w.cell? ⟨b, o, none⟩) (k0 : w.cell? ⟨b0, o0, none⟩ = some v0) (k1 : w.cell? ⟨b1, o1, none⟩ = some v1) (k2 : w.cell? ⟨b2, o2, none⟩ = some v2) (k3 : w.cell? ⟨b3, o3, none⟩ = some v3) (k4 : w.cell? ⟨b4, o4, none⟩ = some v4) (k5 : w.cell? ⟨b5, o5, none⟩ = some v5) (k6 : w.cell? ⟨b6, o6, none⟩ = some v6) (k7 : w.cell? ⟨b7, o7, none⟩ = some v7) (k8 : w.cell? ⟨b8, o8, none⟩ = some v8) (k9 : w.cell? ⟨b9, o9, none⟩ = some v9) (k10 : w.cell? ⟨b10, o10, none⟩ = some v10) (k11 : w.cell? ⟨b11, o11, none⟩ = some v11) (k12 : w.cell? ⟨b12, o12, none⟩ = some v12) (k13 : w.cell? ⟨b13, o13, none⟩ = some v13) (k14 : w.cell? ⟨b14, o14, none⟩ = some v14) (k15 : w.cell? ⟨b15, o15, none⟩ = some v15) : W.cell? ⟨b0, o0, none⟩ = some v0 ∧ W.cell? ⟨b1, o1, none⟩ = some v1 ∧ W.cell? ⟨b2, o2, none⟩ = some v2 ∧ W.cell? ⟨b3, o3, none⟩ = some v3 ∧ W.cell? ⟨b4, o4, none⟩ = some v4 ∧ W.cell? ⟨b5, o5, none⟩ = some v5 ∧ W.cell? ⟨b6, o6, none⟩ = some v6 ∧ W.cell? ⟨b7, o7, none⟩ = some v7 ∧ W.cell? ⟨b8, o8, none⟩ = some v8 ∧ W.cell? ⟨b9, o9, none⟩ = some v9 ∧ W.cell? ⟨b10, o10, none⟩ = some v10 ∧ W.cell? ⟨b11, o11, none⟩ = some v11 ∧ W.cell? ⟨b12, o12, none⟩ = some v12 ∧ W.cell? ⟨b13, o13, none⟩ = some v13 ∧ W.cell? ⟨b14, o14, none⟩ = some v14 ∧ W.cell? ⟨b15, o15, none⟩ = some v15 :=
 ⟨(h _ _ (cell_lt k0)).trans k0, (h _ _ (cell_lt k1)).trans k1, (h _ _ (cell_lt k2)).trans k2, (h _ _ (cell_lt k3)).trans k3, (h _ _ (cell_lt k4)).trans k4, (h _ _ (cell_lt k5)).trans k5, (h _ _ (cell_lt k6)).trans k6, (h _ _ (cell_lt k7)).trans k7, (h _ _ (cell_lt k8)).trans k8, (h _ _ (cell_lt k9)).trans k9, (h _ _ (cell_lt k10)).trans k10, (h _ _ (cell_lt k11)).trans k11, (h _ _ (cell_lt k12)).trans k12, (h _ _ (cell_lt k13)).trans k13, (h _ _ (cell_lt k14)).trans k14, (h _ _ (cell_lt k15)).trans k15⟩
end Go.Proofs.YtlppdgaogdpajaaGreatDoor
namespace Go.Proofs.YtlppdgaogdpajaaGreatDoor
structure Pl where
 name : ByteArray
 kind : Int
deriving DecidableEq
structure Gt where
 name : ByteArray
 a : Int
 b : Int
 most : Int
deriving DecidableEq
structure Fe where
 ticks : Int
 yields : Int
 places : List Pl
 gates : List Gt
deriving DecidableEq
structure Rp where
 id : Int
 known : Int
 kind : Int
 owner : Int
 sort : ByteArray
 plc : Int
 tick : Int
 low : Int
 high : Int
 void : Int
deriving DecidableEq
structure Ar where
 src : Int
 dst : Int
 low : Int
 high : Int
 lowBy : Int
 highBy : Int
deriving DecidableEq
structure Nt where
 n : Int
 arcs : List Ar
deriving DecidableEq
def rg (lo hi n : Int) : Bool := decide (lo ≤ n) && decide (n ≤ hi)
theorem rg_iff {lo hi n : Int} : rg lo hi n = true ↔ lo ≤ n ∧ n ≤ hi := by simp [rg]
def badC (c : UInt8) : Bool := (decide (c.toNat < 97) || decide (122 < c.toNat)) && (decide (c.toNat < 48) || decide (57 < c.toNat)) && c.toNat != 45
def nameL (s : List UInt8) : Bool := match s with
 | [] => false
 | c :: r => decide (r.length < 24) && decide (97 ≤ c.toNat) && decide (c.toNat ≤ 122) && !(c :: r).any badC
def nameB (s : ByteArray) : Bool := nameL s.data.toList
def memB (x : ByteArray) (l : List ByteArray) : Bool := l.any fun y => decide (y = x)
theorem memB_iff {x : ByteArray} {l : List ByteArray} : memB x l = true ↔ x ∈ l := by
 unfold memB
 simp
def twiceB : List ByteArray → Bool
 | [] => false
 | x :: r => memB x r || twiceB r
def plNames (l : List Pl) : List ByteArray := l.map (·.name)
def gtNames (l : List Gt) : List ByteArray := l.map (·.name)
def checkE (f : Fe) : Int :=
 if 8 < f.places.length ∨ 12 < f.gates.length ∨ 24 < f.ticks then 2
 else if f.places.length = 0 ∨ f.ticks < 1 then 5
 else if (plNames f.places).any (fun s => !nameB s) ∨ (gtNames f.gates).any (fun s => !nameB s) then 4
 else if twiceB (plNames f.places) ∨ twiceB (gtNames f.gates) then 6
 else if rg 0 1000 f.yields = false ∨ f.places.any (fun p => p.kind != 1 && p.kind != 2) ∨ f.gates.any (fun g => !rg 0 1000 g.most) then 1
 else if f.gates.any (fun g => !rg 0 (f.places.length - 1) g.a || !rg 0 (f.places.length - 1) g.b || g.a == g.b) then 50
 else 0
def idxP {α : Type} (p : α → Bool) : List α → Nat → Int
 | [], _ => -1
 | x :: l, k => if p x then (k : Int) else idxP p l (k + 1)
def idxS (l : List ByteArray) (s : ByteArray) : Int := idxP (fun x => decide (x = s)) l 0
def zeroB (x : Rp) : Bool := x.owner == 0 && decide (x.sort = ⟨#[]⟩) && x.plc == 0 && x.tick == 0 && x.low == 0 && x.high == 0
def lastT (f : Fe) (k : Int) : Int := if k = 1 then f.ticks else f.ticks - 1
def thingsN (f : Fe) (k : Int) : Int := if k = 2 ∨ k = 3 then f.gates.length else f.places.length
def judgeE (f : Fe) (x : Rp) : Int :=
 if (rg 1 1000000 x.id && rg 0 100000 x.known && rg 1 8 x.kind) = false then 1
 else if x.kind = 8 then (if zeroB x && rg 1 1000000 x.void then 0 else 1)
 else if (rg 1 40 x.owner && nameB x.sort && rg 0 x.high x.low && decide (x.high ≤ 1000) && x.void == 0 && rg 0 (lastT f x.kind) x.tick) = false then 1
 else if rg 0 (thingsN f x.kind - 1) x.plc = false then 50 else 0
def followE (f : Fe) (l : List Rp) (x : Rp) : Int :=
 if 300 ≤ l.length then 2
 else if judgeE f x ≠ 0 then judgeE f x
 else if l.any (fun y => y.id == x.id) then 6
 else if l.any (fun _ => true) && decide (x.known < (l.getLast?.map (·.known)).getD 0) then 7
 else if x.kind = 8 then
  (if l.any (fun y => y.id == x.void && y.kind != 8) = false then 5 else if l.any (fun y => y.kind == 8 && y.void == x.void) then 6 else 0)
 else 0
def checkFrom (f : Fe) (done : List Rp) : List Rp → Int × Int
 | [] => (0, 0)
 | x :: r => if followE f done x ≠ 0 then (done.length, followE f done x) else checkFrom f (done ++ [x]) r
def checkV (f : Fe) (l : List Rp) : Int × Int := if checkE f ≠ 0 then (0, checkE f) else checkFrom f [] l
def appendV (f : Fe) (l : List Rp) (x : Rp) : List Rp × Int :=
 if (checkV f l).2 ≠ 0 then ([], (checkV f l).2) else if followE f l x ≠ 0 then ([], followE f l x) else (l ++ [x], 0)
def countsB (l : List Rp) (known : Int) (x : Rp) : Bool :=
 x.kind != 8 && decide (x.known ≤ known) && !l.any (fun y => y.kind == 8 && decide (y.known ≤ known) && y.void == x.id)
def countL (l : List Rp) (known : Int) : List Rp := l.filter (countsB l known)
def nodeN (f : Fe) (p t : Int) : Int := 1 + 2 * (t * f.places.length + p)
structure Wy where
 arc : Ar
 kind : ByteArray
 name : ByteArray
 plc : Int
 tick : Int
deriving DecidableEq
def wyOf (src dst high : Int) (kind name : ByteArray) (plc tick : Int) : Wy := ⟨⟨src, dst, 0, high, 0, 0⟩, kind, name, plc, tick⟩
structure Wa where
 arc : Ar
 words : List ByteArray
 step : Int
deriving DecidableEq
def Wy.wa (y : Wy) : Wa := ⟨y.arc, [y.kind, y.name], y.tick⟩
def wStay : ByteArray := ⟨#[115, 116, 97, 121]⟩
def wRest : ByteArray := ⟨#[114, 101, 115, 116]⟩
def wBorn : ByteArray := ⟨#[98, 111, 114, 110]⟩
def wDead : ByteArray := ⟨#[100, 101, 97, 100]⟩
def wBought : ByteArray := ⟨#[98, 111, 117, 103, 104, 116]⟩
def wSold : ByteArray := ⟨#[115, 111, 108, 100]⟩
def wPass : ByteArray := ⟨#[112, 97, 115, 115]⟩
def wBack : ByteArray := ⟨#[98, 97, 99, 107]⟩
def wBegin : ByteArray := ⟨#[98, 101, 103, 105, 110]⟩
def wEnd : ByteArray := ⟨#[101, 110, 100]⟩
def wVoid : ByteArray := ⟨#[118, 111, 105, 100]⟩
def numbered {α : Type} (l : List α) : List (Int × α) := l.zipIdx.map fun x => ((x.2 : Int), x.1)
def staysOf (f : Fe) (t : Int) : List Wy := (numbered f.places).map fun (p, x) => wyOf (nodeN f p t) (nodeN f p t + 1) 1000 wStay x.name p t
def movesAt (f : Fe) (t p : Int) (name : ByteArray) : List Wy :=
  [wyOf (nodeN f p t + 1) (nodeN f p (t + 1)) 1000 wRest name p t, wyOf 0 (nodeN f p (t + 1)) f.yields wBorn name p t, wyOf (nodeN f p t + 1) 0 f.yields wDead name p t,
   wyOf 0 (nodeN f p (t + 1)) f.yields wBought name p t, wyOf (nodeN f p t + 1) 0 f.yields wSold name p t]
def movesOf (f : Fe) (t : Int) : List Wy := (numbered f.places).flatMap fun (p, x) => movesAt f t p x.name
def passesAt (f : Fe) (t i : Int) (g : Gt) : List Wy :=
 [wyOf (nodeN f g.a t + 1) (nodeN f g.b (t + 1)) g.most wPass g.name i t, wyOf (nodeN f g.b t + 1) (nodeN f g.a (t + 1)) g.most wBack g.name i t]
def passesOf (f : Fe) (t : Int) : List Wy := (numbered f.gates).flatMap fun (i, g) => passesAt f t i g
def upTo (n : Int) : List Int := (List.range n.toNat).map fun (k : Nat) => (k : Int)
def begins (f : Fe) : List Wy := (numbered f.places).map fun (p, x) => wyOf 0 (nodeN f p 0) 1000 wBegin x.name p (-1)
def endsOf (f : Fe) : List Wy := (numbered f.places).map fun (p, x) => wyOf (nodeN f p f.ticks + 1) 0 1000 wEnd x.name p (-1)
def stepOf (f : Fe) (t : Int) : List Wy := movesOf f t ++ passesOf f t
def waysL (f : Fe) : List Wy := (upTo (f.ticks + 1)).flatMap (staysOf f) ++ ((upTo f.ticks).flatMap (stepOf f) ++ (begins f ++ endsOf f))
def arcsL (f : Fe) : List Wa := (waysL f).map Wy.wa
def stepN (f : Fe) : Int := 5 * f.places.length + 2 * f.gates.length
def firstN (f : Fe) (t : Int) : Int := (f.ticks + 1) * f.places.length + t * stepN f
def countN (f : Fe) : Int := firstN f f.ticks + 2 * f.places.length
def idxN (f : Fe) (kind plc tick : Int) : Int :=
 if kind = 1 then tick * f.places.length + plc
 else if kind = 2 ∨ kind = 3 then firstN f tick + 5 * f.places.length + 2 * plc + (kind - 2)
 else firstN f tick + 5 * plc + (kind - 4) + 1
def natureV (f : Fe) : Nt := ⟨nodeN f 0 (f.ticks + 1), (arcsL f).map (·.arc)⟩
def narrow (a : Ar) (x : Rp) : Ar :=
 let a1 := if a.low < x.low then { a with low := x.low, lowBy := x.id } else a
 if x.high < a1.high then { a1 with high := x.high, highBy := x.id } else a1
def netStep (f : Fe) (owner : Int) (sort : ByteArray) (arcs : List Ar) (x : Rp) : List Ar :=
 if x.owner = owner ∧ x.sort = sort then arcs.modify (idxN f x.kind x.plc x.tick).toNat (narrow · x) else arcs
def netV (f : Fe) (l : List Rp) (known owner : Int) (sort : ByteArray) : Nt × Int :=
 if (checkV f l).2 ≠ 0 then (⟨0, []⟩, (checkV f l).2)
 else if (rg 1 40 owner && nameB sort) = false then (⟨0, []⟩, 1)
 else (⟨nodeN f 0 (f.ticks + 1), (countL l known).foldl (netStep f owner sort) (natureV f).arcs⟩, 0)
def reportE (f : Fe) (x : Rp) : Int := if checkE f ≠ 0 then checkE f else judgeE f x
def moveV (f : Fe) (x : Rp) : Int × Int := if reportE f x ≠ 0 then (0, reportE f x) else if x.kind = 8 then (0, 1) else (idxN f x.kind x.plc x.tick, 0)
def itoaS (n : Int) : ByteArray := ⟨(Lib.itoa n).toArray⟩
def joinS (l : List ByteArray) : ByteArray := ⟨(Lib.join (l.map (·.data.toList)) [32]).toArray⟩
def nameArcV (f : Fe) (k : Int) : ByteArray × Int :=
 if checkE f ≠ 0 then (⟨#[]⟩, checkE f)
 else match (if k < 0 then none else (arcsL f)[k.toNat]?) with
  | some a => (joinS (if 0 ≤ a.step then a.words ++ [itoaS a.step] else a.words), 0)
  | none => (⟨#[]⟩, 1)
def onFellL (f : Fe) (t : Int) : List Int := (upTo (countN f)).map fun i => if (numbered f.places).any (fun (p, x) => x.kind == 1 && idxN f 1 p t == i) then 1 else 0
def onFellV (f : Fe) (t : Int) : List Int × Int := if checkE f ≠ 0 then ([], checkE f) else if rg 0 f.ticks t = false then ([], 1) else (onFellL f t, 0)
def piecesC (c : UInt8) (s : ByteArray) : List ByteArray := Lib.splitB ⟨#[c]⟩ 0 (Lib.countB s ⟨#[c]⟩) s
def wordsB (s : ByteArray) : List ByteArray := piecesC 32 s
def wFell : ByteArray := ⟨#[102, 101, 108, 108]⟩
def wHeaf : ByteArray := ⟨#[104, 101, 97, 102]⟩
def wFold : ByteArray := ⟨#[102, 111, 108, 100]⟩
def wGate : ByteArray := ⟨#[103, 97, 116, 101]⟩
def kindsL : List ByteArray := [⟨#[]⟩, wStay, wPass, wBack, wBorn, wDead, wBought, wSold, wVoid]
def wordOf (k : Int) : ByteArray := kindsL[k.toNat]?.getD ⟨#[]⟩
def thingsL (f : Fe) (k : Int) : List ByteArray := if k = 2 ∨ k = 3 then gtNames f.gates else plNames f.places
def wd (l : List ByteArray) (k : Nat) : ByteArray := l[k]?.getD ⟨#[]⟩
def lineL (f : Fe) (x : Rp) : List ByteArray :=
 if x.kind = 8 then [itoaS x.id, itoaS x.known, wVoid, itoaS x.void]
 else [itoaS x.id, itoaS x.known, wordOf x.kind, itoaS x.owner, x.sort, wd (thingsL f x.kind) x.plc.toNat, itoaS x.tick, itoaS x.low, itoaS x.high]
def lineV (f : Fe) (x : Rp) : ByteArray := joinS (lineL f x)
def numO (s : ByteArray) : Option Int := match Lib.atoiAll s.data.toList with
 | .ok n => if 0 ≤ n ∧ itoaS n = s then some n else none
 | _ => none
def shortO (s : ByteArray) : Option Int := if s.size ≤ 6 then numO s else none
def rpZ : Rp := ⟨0, 0, 0, 0, ⟨#[]⟩, 0, 0, 0, 0, 0⟩
def meantO (f : Fe) (w : List ByteArray) : Option Rp :=
 if w.length = 4 ∨ w.length = 9 then
  match numO (wd w 0), numO (wd w 1) with
  | some id, some known =>
   let kind := max 0 (idxS kindsL (wd w 2))
   if kind = 8 then (match numO (wd w 3) with | some v => some ⟨id, known, 8, 0, ⟨#[]⟩, 0, 0, 0, 0, v⟩ | none => none)
   else if w.length = 9 ∧ 0 < kind then
    (match numO (wd w 3), numO (wd w 6), numO (wd w 7), numO (wd w 8) with
    | some owner, some tick, some low, some high => some ⟨id, known, kind, owner, wd w 4, idxS (thingsL f kind) (wd w 5), tick, low, high, 0⟩
    | _, _, _, _ => none)
   else none
  | _, _ => none
 else none
def readV (f : Fe) (s : ByteArray) : Rp × Int :=
 if checkE f ≠ 0 then (rpZ, checkE f)
 else match meantO f (wordsB s) with
  | some x => if judgeE f x = 0 ∧ lineV f x = s then (x, 0) else (rpZ, 4)
  | none => (rpZ, 4)
def feZ : Fe := ⟨0, 0, [], []⟩
def parseLine (f : Fe) (begun : Bool) (w : List ByteArray) : Fe × Int :=
 if wd w 0 = wFell then
  (if !begun ∧ w.length = 3 then (match shortO (wd w 1), shortO (wd w 2) with | some t, some y => ({ f with ticks := t, yields := y }, 0) | _, _ => (f, 4)) else (f, 4))
 else if begun = false then (f, 4)
 else if wd w 0 = wHeaf ∨ wd w 0 = wFold then
  (if w.length = 2 ∧ nameB (wd w 1) then ({ f with places := f.places ++ [⟨wd w 1, if wd w 0 = wHeaf then 1 else 2⟩] }, 0) else (f, 4))
 else if wd w 0 = wGate then
  (if w.length = 5 ∧ nameB (wd w 1) ∧ nameB (wd w 2) ∧ nameB (wd w 3) then
   (match shortO (wd w 4) with
   | some m => if 0 ≤ idxS (plNames f.places) (wd w 2) ∧ 0 ≤ idxS (plNames f.places) (wd w 3) then ({ f with gates := f.gates ++ [⟨wd w 1, idxS (plNames f.places) (wd w 2), idxS (plNames f.places) (wd w 3), m⟩] }, 0) else (f, 50)
   | none => (f, 4))
  else (f, 4))
 else (f, 4)
def parseFrom (i : Nat) (f : Fe) (begun : Bool) : List ByteArray → Fe × Int × Int
 | [] => (f, 0, 0)
 | s :: r =>
  if s = ⟨#[]⟩ ∨ s.data[0]? = some 35 then parseFrom (i + 1) f begun r
  else if (parseLine f begun (wordsB s)).2 ≠ 0 then (feZ, (parseLine f begun (wordsB s)).2, i + 1)
  else parseFrom (i + 1) (parseLine f begun (wordsB s)).1 true r
def parseV (src : ByteArray) : Fe × Int × Int :=
 if 20000 < src.size then (feZ, 2, 0)
 else if (parseFrom 0 feZ false (piecesC 10 src)).2.1 ≠ 0 then parseFrom 0 feZ false (piecesC 10 src)
 else if checkE (parseFrom 0 feZ false (piecesC 10 src)).1 ≠ 0 then (feZ, checkE (parseFrom 0 feZ false (piecesC 10 src)).1, 0)
 else parseFrom 0 feZ false (piecesC 10 src)
def sp : ByteArray := ⟨#[32]⟩
def nl : ByteArray := ⟨#[10]⟩
def printL (f : Fe) : List ByteArray :=
 [wFell ++ sp ++ itoaS f.ticks ++ sp ++ itoaS f.yields] ++ f.places.map (fun p => (if p.kind = 1 then wHeaf else wFold) ++ sp ++ p.name)
  ++ f.gates.map (fun g => wGate ++ sp ++ g.name ++ sp ++ wd (plNames f.places) g.a.toNat ++ sp ++ wd (plNames f.places) g.b.toNat ++ sp ++ itoaS g.most)
def printV (f : Fe) : ByteArray := if checkE f ≠ 0 then ⟨#[]⟩ else ⟨(Lib.join ((printL f).map (·.data.toList)) [10]).toArray⟩ ++ nl
def besideL (f : Fe) (p : Int) : List Int := (f.gates.filterMap fun g => if g.a = p then some g.b else if g.b = p then some g.a else none)
end Go.Proofs.YtlppdgaogdpajaaGreatDoor
namespace Go.Proofs.YtlppdgaogdpajaaGreatDoor
open Go.RowKit
theorem via {P : Program} {f : FuncId} {args : Array Value} {w0 w : World} {v : Ending} (hB : Below w0.heap.size w0 w) (h : Calls P f args w fun e w' => e = v ∧ Below w.heap.size w w') :
  Calls P f args w fun e w' => e = v ∧ (∀ b o, b < w0.heap.size → w'.cell? ⟨b, o, none⟩ = w0.cell? ⟨b, o, none⟩) ∧ (∀ b o, b < w0.heap.size → w'.frozen? ⟨b, o, none⟩ = w0.frozen? ⟨b, o, none⟩) ∧ w0.heap.size ≤ w'.heap.size ∧ Below w0.heap.size w0 w' :=
 h.mono fun _ _ ⟨he, hb⟩ => ⟨he, (bcell (bthen hB hb)).1, (bcell (bthen hB hb)).2, (bthen hB hb).size, bthen hB hb⟩
section
variable {P : Program} {ops : Array Oper} {md : Region.Mode} {Q : Exit → Act → World → Prop} {C : World → Prop}
theorem wpOp_of_yields {j : Nat} {o : Oper} {v : Value} {a : Act} {W : World} {K : Act → World → Prop} (ho : ops[j]? = some o) (hw : C W) (hy : YieldsIn P ops C o v a)
  (h : ∀ W', C W' → K (a.put o.dst v) W') : wpOp P ops Q j K a W :=
 wpOp_of_qOp (C := C) (K := fun a' => a' = a.put o.dst v) hw (fun a' w' hw' e => by subst e; exact h w' hw') (hy.qOp ho rfl)
theorem listed_lt {listed : Array Bool} {i : Nat} (h : listed.getD i true = false) : listed.getD i false = false ∧ i < listed.size := by
 rcases Nat.lt_or_ge i listed.size with h' | h'
 ·simp [h'] at h ⊢; exact h
 ·simp [Array.getElem?_eq_none h'] at h
def tailB (md : Region.Mode) (ops : Array Oper) : Nat → Nat → Array Bool → Bool
 | 0, _, listed => (Region.ready md ops listed).isEmpty
 | g + 1, k, listed => decide (Region.ready md ops listed = [k]) && tailB md ops g (k + 1) (listed.setIfInBounds k true)
theorem wpAny_of_tail : ∀ (l : List Oper) (k : Nat) (listed : Array Bool) (a : Act) (w : World), (∀ j, l[j]? = ops[k + j]?) →
  tailB md ops l.length k listed = true → wpList P ops Q l a w → wpAny P md ops Q l.length listed a w
 | [], _, _, _, _, _, hB, h => ⟨by simpa [tailB] using hB, h⟩
 | o :: l, k, listed, a, w, hl, hB, h => by
  have h0 : ops[k]? = some o := by simpa using (hl 0).symm
  simp only [List.length_cons, tailB, Bool.and_eq_true, decide_eq_true_eq] at hB
  refine ⟨fun h1 => (by rw [hB.1] at h1; cases h1), fun i hi => ?_⟩
  rw [hB.1] at hi
  obtain rfl : i = k := by simpa using hi
  have hw : wpOp P ops Q i (wpList P ops Q l) a w := by unfold wpOp; simp only [h0]; exact h
  exact wpOp_mono (fun a' w' h' => wpAny_of_tail l (i + 1) _ a' w' (fun j => by have := hl (j + 1); simpa [Nat.add_assoc, Nat.add_comm 1 j] using this) hB.2 h') hw
end
end Go.Proofs.YtlppdgaogdpajaaGreatDoor
