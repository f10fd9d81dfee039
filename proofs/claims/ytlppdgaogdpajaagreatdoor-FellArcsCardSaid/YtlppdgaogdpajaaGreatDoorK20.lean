/- This text is a part of the proof: Alloc. -/
import Derived.Test.YtlppdgaogdpajaaGreatDoorK1
namespace Go.Proofs.YtlppdgaogdpajaaGreatDoor
open Go.RowKit
theorem later_of {W W' : World} {b o : Nat} {v : Value} (h : Below W.heap.size W W') (k : W.cell? ⟨b, o, none⟩ = some v) : W'.cell? ⟨b, o, none⟩ = some v := ((bcell h).1 _ _ (cell_lt k)).trans k
theorem later_off {W W' : World} {b o : Nat} {v : Value} (h : Below W.heap.size W W') (k : W.cell? ⟨b, o, none⟩ = some v) (f : W.frozen? ⟨b, o, none⟩ = false) : W'.frozen? ⟨b, o, none⟩ = false := ((bcell h).2 _ _ (cell_lt k)).trans f
section
variable {ops : Array Oper} {md : Region.Mode} {Q : Exit → Act → World → Prop} {w0 : World} {obj : Obj}
abbrev LaterC (w0 : World) : World → Prop := fun w' => ∃ x : Later w0, w' = x.1
def YieldsR (ops : Array Oper) (w0 : World) (o : Oper) (v : Value) (a : Act) : Prop := ∀ w1, Below w0.heap.size w0 w1 → YieldsIn Tryz.prog ops (LaterC w1) o v a
theorem YieldsR.of_same {o : Oper} {v : Value} {a a' : Act} (hy : YieldsR ops w0 o v a) (he : execOp a'.eval o = execOp a.eval o)
  (hw : Region.wanted o (yielded ops a'.tmps) = Region.wanted o (yielded ops a.tmps)) : YieldsR ops w0 o v a' := fun w1 h => (hy w1 h).of_same he hw
def inS (w0 Ws W : World) : Prop := Below w0.heap.size w0 W ∧ Below Ws.heap.size Ws W
theorem inS.on {Ws W W' : World} (h : inS w0 Ws W) (hb : Below W.heap.size W W') : inS w0 Ws W' := ⟨bthen h.1 hb, bthen h.2 hb⟩
def Turns (ops : Array Oper) (o : Oper) (a : Act) (W : World) (u : Value) (W' : World) : Prop :=
 Region.wanted o (yielded ops a.tmps) = true ∧ ((execOp a.eval o).run Tryz.prog W = .ok (.value u) W' ∨ (u = undef ∧ (execOp a.eval o).run Tryz.prog W = .ok .skip W'))
theorem Turns.of_same {o : Oper} {u : Value} {a a' : Act} {W W' : World} (hy : Turns ops o a W u W') (he : execOp a'.eval o = execOp a.eval o)
  (hw : Region.wanted o (yielded ops a'.tmps) = Region.wanted o (yielded ops a.tmps)) : Turns ops o a' W u W' := by
 unfold Turns at *
 rw [he, hw]
 exact hy
variable (ops md Q w0) in
end
end Go.Proofs.YtlppdgaogdpajaaGreatDoor
