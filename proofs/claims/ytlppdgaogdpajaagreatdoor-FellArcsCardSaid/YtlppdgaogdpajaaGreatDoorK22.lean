/- This text is a part of the proof: ReadPlain. -/
import Derived.Test.YtlppdgaogdpajaaGreatDoorK21
namespace Go.Proofs.YtlppdgaogdpajaaGreatDoor
open Go.RowKit
def readErr (f : Fe) (s : ByteArray) : Int := match meantO f (wordsB s) with
 | none => 4
 | some x => if judgeE f x ≠ 0 then judgeE f x else if lineV f x = s then 0 else 4
def kindW (L : List ByteArray) : Int := max 0 (idxS kindsL (wd L 2))
theorem readV_of (f : Fe) (s : ByteArray) (h : checkE f = 0) : readV f s = if readErr f s = 0 then ((meantO f (wordsB s)).getD rpZ, 0) else (rpZ, 4) := by
 unfold readV readErr
 rw [if_neg (by omega)]
 cases meantO f (wordsB s) with
 | none => simp
 | some x =>
  simp only
  by_cases hj : judgeE f x = 0
  ·by_cases hs : lineV f x = s
   ·simp [hj, hs]
   ·simp [hj, hs]
  ·simp [hj]
theorem err_none {f : Fe} {s : ByteArray} {L : List ByteArray} (hL : wordsB s = L) (h : meantO f L = none) : readErr f s = 4 := by
 unfold readErr
 rw [hL, h]
theorem err_some {f : Fe} {s : ByteArray} {L : List ByteArray} {x : Rp} (hL : wordsB s = L) (h : meantO f L = some x) : readErr f s = if judgeE f x ≠ 0 then judgeE f x else if lineV f x = s then 0 else 4 := by
 unfold readErr
 rw [hL, h]
theorem meant_len {f : Fe} {L : List ByteArray} (h4 : ¬ L.length = 4) (h9 : ¬ L.length = 9) : meantO f L = none := by
 unfold meantO
 rw [if_neg (by omega)]
theorem meant_0 {f : Fe} {L : List ByteArray} (h : numO (wd L 0) = none) : meantO f L = none := by
 unfold meantO
 rw [h]
 split <;> rfl
theorem meant_1 {f : Fe} {L : List ByteArray} (h : numO (wd L 1) = none) : meantO f L = none := by
 unfold meantO
 rw [h]
 split
 ·split <;> first | rfl | (rename_i hx; cases hx)
 ·rfl
theorem meant_8n {f : Fe} {L : List ByteArray} (hk : kindW L = 8) (h : numO (wd L 3) = none) : meantO f L = none := by
 have hk2 : max 0 (idxS kindsL (wd L 2)) = 8 := hk
 unfold meantO
 split
 ·split
  ·dsimp only
   simp only [hk2, if_true, h]
  ·rfl
 ·rfl
theorem meant_8 {f : Fe} {L : List ByteArray} {a b v : Int} (hn : L.length = 4 ∨ L.length = 9) (h0 : numO (wd L 0) = some a) (h1 : numO (wd L 1) = some b) (hk : kindW L = 8) (h : numO (wd L 3) = some v) : meantO f L = some ⟨a, b, 8, 0, ⟨#[]⟩, 0, 0, 0, 0, v⟩ := by
 unfold meantO
 rw [if_pos hn, h0, h1]
 dsimp only
 rw [show max 0 (idxS kindsL (wd L 2)) = 8 from hk, h]
 rfl
theorem meant_no {f : Fe} {L : List ByteArray} (hk : ¬ kindW L = 8) (h : ¬ L.length = 9 ∨ kindW L = 0) : meantO f L = none := by
 unfold meantO
 split
 ·split
  ·dsimp only
   rw [if_neg (show ¬ max 0 (idxS kindsL (wd L 2)) = 8 from hk), if_neg]
   intro h2
   rcases h with h | h
   ·exact h h2.1
   ·have := h2.2
    unfold kindW at h
    omega
  ·rfl
 ·rfl
theorem meant_k {f : Fe} {L : List ByteArray} {a b : Int} (hn : L.length = 9) (h0 : numO (wd L 0) = some a) (h1 : numO (wd L 1) = some b) (hk : ¬ kindW L = 8) (hp : 0 < kindW L) : meantO f L =
  (match numO (wd L 3), numO (wd L 6), numO (wd L 7), numO (wd L 8) with
    | some owner, some tick, some low, some high => some ⟨a, b, kindW L, owner, wd L 4, idxS (thingsL f (kindW L)) (wd L 5), tick, low, high, 0⟩
    | _, _, _, _ => none) := by
 unfold meantO
 rw [if_pos (.inr hn), h0, h1]
 dsimp only
 rw [if_neg (show ¬ max 0 (idxS kindsL (wd L 2)) = 8 from hk), if_pos ⟨hn, hp⟩]
 rfl
theorem meant_kn {f : Fe} {L : List ByteArray} {a b : Int} (hn : L.length = 9) (h0 : numO (wd L 0) = some a) (h1 : numO (wd L 1) = some b) (hk : ¬ kindW L = 8) (hp : 0 < kindW L) (h : numO (wd L 3) = none ∨ numO (wd L 6) = none ∨ numO (wd L 7) = none ∨ numO (wd L 8) = none) : meantO f L = none := by
 rw [meant_k hn h0 h1 hk hp]
 split
 ·rename_i a3 a6 a7 a8
  rcases h with h | h | h | h
  ·rw [h] at a3; cases a3
  ·rw [h] at a6; cases a6
  ·rw [h] at a7; cases a7
  ·rw [h] at a8; cases a8
 ·rfl
theorem idxP_ub2 {α : Type} (p : α → Bool) : ∀ (l : List α) (k : Nat), idxP p l k < k + l.length ∨ (l = [] ∧ idxP p l k = -1)
 | [], k => .inr ⟨rfl, rfl⟩
 | x :: l, k => by
  left
  rw [idxP]
  split
  ·simp; omega
  ·have := idxP_ub2 p l (k + 1)
   simp at this ⊢
   rcases this with h | ⟨_, h⟩ <;> omega
theorem kindW_bd (L : List ByteArray) : 0 ≤ kindW L ∧ kindW L ≤ 8 := by
 have h := idxP_ub2 (fun x => decide (x = wd L 2)) kindsL 0
 have h2 : kindsL.length = 9 := rfl
 unfold kindW idxS
 rw [h2] at h
 rcases h with h | ⟨h, _⟩
 ·constructor <;> omega
 ·cases h
theorem strs_cell {W : World} {b : Nat} {L : List ByteArray} (h : Strs W (some ⟨b, 0, none⟩) L) {k : Nat} (hk : k < L.length) : W.cell? ⟨b, k, none⟩ = some (.string (wd L k)) := by
 obtain ⟨g, o, he, hc⟩ := h.at (wd_some hk)
 simp only [Option.some.injEq, Addr.mk.injEq, and_true] at he
 obtain ⟨rfl, rfl⟩ := he
 simpa using str_cell hc
theorem wd_size {s : ByteArray} {L : List ByteArray} (hL : wordsB s = L) (hs : s.size ≤ 1000000) (k : Nat) : (wd L k).size ≤ 1000000 := by
 unfold wd
 cases h : L[k]? with
 | none => exact (by decide)
 | some x =>
  have h1 : x ∈ wordsB s := by rw [hL]; exact List.mem_of_getElem? h
  exact Nat.le_trans (pieces_each 32 s x h1) hs
def Stays.num (o : Option Int) : Stays := ⟨fun v _ => ∃ n, o = some n ∧ v = .int .i64 n, fun _ _ _ h _ => h⟩
theorem step_num {P : Program} {Q : Exit → Act → World → Prop} {o : Oper} {a : Act} {W W' : World} {K : Act → World → Prop} {f : FuncId} {args : Array Value} {r : Option Int} (h : (execOp a.eval o).run P W = .ok (.enter f args) W') (hc : Calls P f args W' fun e w' => e = numE r ∧ Below W'.heap.size W' w')
  (hk : ∀ n w', r = some n → Below W'.heap.size W' w' → K (a.put o.dst (.int .i64 n)) w') (hp : r = none → ∀ w', Below W'.heap.size W' w' → Q (.panic (givesUp 4)) a w') : o.wp P a W K Q := by
 unfold Oper.wp
 rw [h]
 refine hc.mono fun e w' ⟨he, hb⟩ => ?_
 subst he
 cases r with
 | none => exact hp rfl w' hb
 | some n => exact hk n w' rfl hb
end Go.Proofs.YtlppdgaogdpajaaGreatDoor
