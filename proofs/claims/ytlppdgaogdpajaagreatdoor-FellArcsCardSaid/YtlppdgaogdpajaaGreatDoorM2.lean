/- This text is a part of the proof: Ways, RefWaysBase, RefWaysOf. -/
import Derived.Test.YtlppdgaogdpajaaGreatDoorK15
import Derived.Test.YtlppdgaogdpajaaGreatDoorM1
import Derived.Deep.Upon
namespace Go.Proofs.YtlppdgaogdpajaaGreatDoor
def Idx {α : Type} (g : α → Int) (b : Int) (l : List α) : Prop := ∀ (j : Nat) y, l[j]? = some y → g y = b + j
theorem Idx.nil {α : Type} (g : α → Int) (b : Int) : Idx g b [] := fun j y h => by simp at h
theorem Idx.cons {α : Type} {g : α → Int} {b : Int} {x : α} {l : List α} (h : g x = b) (hl : Idx g (b + 1) l) : Idx g b (x :: l) := fun j y hj => by
 cases j with
 | zero =>
  simp only [List.getElem?_cons_zero, Option.some.injEq] at hj
  subst hj
  simpa using h
 | succ j =>
  have := hl j y (by simpa using hj)
  omega
theorem Idx.append {α : Type} {g : α → Int} {b : Int} {l r : List α} (hl : Idx g b l) (hr : Idx g (b + l.length) r) : Idx g b (l ++ r) := fun j y hj => by
 rcases Nat.lt_or_ge j l.length with h | h
 ·rw [List.getElem?_append_left h] at hj
  exact hl j y hj
 ·rw [List.getElem?_append_right h] at hj
  have := hr _ y hj
  omega
theorem Idx.at {α : Type} {g : α → Int} {b b' : Int} {l : List α} (h : Idx g b l) (e : b = b') : Idx g b' l := e ▸ h
theorem Idx.flat {α β : Type} {g : α → Int} {h : β → List α} {c : Nat} : ∀ (l : List β) (b : Int), (∀ (i : Nat) x, l[i]? = some x → (h x).length = c ∧ Idx g (b + i * c) (h x)) → Idx g b (l.flatMap h)
 | [], b, _ => Idx.nil g b
 | x :: l, b, hx => by
  rw [List.flatMap_cons]
  obtain ⟨h1, h2⟩ := hx 0 x rfl
  refine (h2.at (by simp)).append (Idx.flat (c := c) l _ fun i y hy => ?_)
  obtain ⟨h3, h4⟩ := hx (i + 1) y (by simpa using hy)
  refine ⟨h3, h4.at ?_⟩
  rw [h1]
  push_cast
  rw [Int.add_mul]
  omega
theorem flat_length {α β : Type} {h : β → List α} {c : Nat} : ∀ (l : List β), (∀ x ∈ l, (h x).length = c) → (l.flatMap h).length = l.length * c
 | [], _ => by simp
 | x :: l, hx => by
  rw [List.flatMap_cons, List.length_append, hx x (by simp), flat_length l fun y hy => hx y (by simp [hy]), List.length_cons, Nat.succ_mul]
  omega
theorem Idx.map {α β : Type} {g : α → Int} {h : β → α} (l : List β) (b : Int) (hx : ∀ (i : Nat) x, l[i]? = some x → g (h x) = b + i) : Idx g b (l.map h) := fun j y hj => by
 rw [List.getElem?_map] at hj
 obtain ⟨x, h1, rfl⟩ := Option.map_eq_some_iff.1 hj
 exact hx j x h1
theorem numbered_at {α : Type} {l : List α} {i : Nat} {x : Int × α} (h : (numbered l)[i]? = some x) : x.1 = (i : Int) ∧ l[i]? = some x.2 := by
 unfold numbered at h
 rw [List.getElem?_map, List.getElem?_zipIdx] at h
 obtain ⟨y, h1, rfl⟩ := Option.map_eq_some_iff.1 h
 obtain ⟨z, h2, rfl⟩ := Option.map_eq_some_iff.1 h1
 exact ⟨by simp, h2⟩
theorem numbered_length {α : Type} (l : List α) : (numbered l).length = l.length := by simp [numbered]
theorem upTo_at {n : Int} {i : Nat} {t : Int} (h : (upTo n)[i]? = some t) : t = (i : Int) ∧ (i : Int) < n := by
 unfold upTo at h
 rw [List.getElem?_map] at h
 obtain ⟨k, h1, rfl⟩ := Option.map_eq_some_iff.1 h
 obtain ⟨h2, h3⟩ := List.getElem?_eq_some_iff.1 h1
 simp at h2 h3
 subst h3
 exact ⟨rfl, by omega⟩
theorem upTo_length (n : Int) : (upTo n).length = n.toNat := by simp [upTo]
def idxW (f : Fe) (kind : ByteArray) (plc tick : Int) : Int :=
 if kind = wStay then tick * f.places.length + plc
 else if kind = wRest then firstN f tick + 5 * plc
 else if kind = wBorn then firstN f tick + 5 * plc + 1
 else if kind = wDead then firstN f tick + 5 * plc + 2
 else if kind = wBought then firstN f tick + 5 * plc + 3
 else if kind = wSold then firstN f tick + 5 * plc + 4
 else if kind = wPass then firstN f tick + 5 * f.places.length + 2 * plc
 else if kind = wBack then firstN f tick + 5 * f.places.length + 2 * plc + 1
 else if kind = wBegin then firstN f f.ticks + plc
 else firstN f f.ticks + f.places.length + plc
def gW (f : Fe) (y : Wy) : Int := idxW f y.kind y.plc y.tick
theorem words_ne : wRest ≠ wStay ∧ wBorn ≠ wStay ∧ wBorn ≠ wRest ∧ wDead ≠ wStay ∧ wDead ≠ wRest ∧ wDead ≠ wBorn ∧ wBought ≠ wStay ∧ wBought ≠ wRest ∧ wBought ≠ wBorn ∧ wBought ≠ wDead ∧
  wSold ≠ wStay ∧ wSold ≠ wRest ∧ wSold ≠ wBorn ∧ wSold ≠ wDead ∧ wSold ≠ wBought := by decide
theorem words_ne2 : wPass ≠ wStay ∧ wPass ≠ wRest ∧ wPass ≠ wBorn ∧ wPass ≠ wDead ∧ wPass ≠ wBought ∧ wPass ≠ wSold ∧
  wBack ≠ wStay ∧ wBack ≠ wRest ∧ wBack ≠ wBorn ∧ wBack ≠ wDead ∧ wBack ≠ wBought ∧ wBack ≠ wSold ∧ wBack ≠ wPass := by decide
theorem words_ne3 : wBegin ≠ wStay ∧ wBegin ≠ wRest ∧ wBegin ≠ wBorn ∧ wBegin ≠ wDead ∧ wBegin ≠ wBought ∧ wBegin ≠ wSold ∧ wBegin ≠ wPass ∧ wBegin ≠ wBack ∧
  wEnd ≠ wStay ∧ wEnd ≠ wRest ∧ wEnd ≠ wBorn ∧ wEnd ≠ wDead ∧ wEnd ≠ wBought ∧ wEnd ≠ wSold ∧ wEnd ≠ wPass ∧ wEnd ≠ wBack ∧ wEnd ≠ wBegin := by decide
theorem stays_length (f : Fe) (t : Int) : (staysOf f t).length = f.places.length := by simp [staysOf, numbered_length]
theorem moves_length (f : Fe) (t : Int) : (movesOf f t).length = f.places.length * 5 := by
 unfold movesOf
 rw [flat_length (c := 5) _ (fun x _ => rfl), numbered_length]
theorem passes_length (f : Fe) (t : Int) : (passesOf f t).length = f.gates.length * 2 := by
 unfold passesOf
 rw [flat_length (c := 2) _ (fun x _ => rfl), numbered_length]
theorem step_length (f : Fe) (t : Int) : (stepOf f t).length = f.places.length * 5 + f.gates.length * 2 := by
 unfold stepOf
 rw [List.length_append, moves_length, passes_length]
theorem stays_idx (f : Fe) (t : Int) : Idx (gW f) (t * f.places.length) (staysOf f t) := by
 refine Idx.map _ _ fun i x hx => ?_
 obtain ⟨p, x⟩ := x
 obtain ⟨h1, _⟩ := numbered_at hx
 simp only at h1
 subst h1
 simp [gW, wyOf, idxW]
theorem moves_idx (f : Fe) (t : Int) : Idx (gW f) (firstN f t) (movesOf f t) := by
 obtain ⟨r1, b1, b2, d1, d2, d3, u1, u2, u3, u4, s1, s2, s3, s4, s5⟩ := words_ne
 refine Idx.flat (c := 5) _ _ fun i x hx => ⟨rfl, ?_⟩
 obtain ⟨p, x⟩ := x
 obtain ⟨h1, _⟩ := numbered_at hx
 simp only at h1
 subst h1
 refine Idx.cons ?_ (Idx.cons ?_ (Idx.cons ?_ (Idx.cons ?_ (Idx.cons ?_ (Idx.nil _ _)))))
 ·simp [gW, wyOf, idxW, r1]; omega
 ·simp [gW, wyOf, idxW, b1, b2]; omega
 ·simp [gW, wyOf, idxW, d1, d2, d3]; omega
 ·simp [gW, wyOf, idxW, u1, u2, u3, u4]; omega
 ·simp [gW, wyOf, idxW, s1, s2, s3, s4, s5]; omega
theorem passes_idx (f : Fe) (t : Int) : Idx (gW f) (firstN f t + 5 * f.places.length) (passesOf f t) := by
 obtain ⟨p1, p2, p3, p4, p5, p6, b1, b2, b3, b4, b5, b6, b7⟩ := words_ne2
 refine Idx.flat (c := 2) _ _ fun i x hx => ⟨rfl, ?_⟩
 obtain ⟨p, x⟩ := x
 obtain ⟨h1, _⟩ := numbered_at hx
 simp only at h1
 subst h1
 refine Idx.cons ?_ (Idx.cons ?_ (Idx.nil _ _))
 ·simp [gW, wyOf, idxW, p1, p2, p3, p4, p5, p6]; omega
 ·simp [gW, wyOf, idxW, b1, b2, b3, b4, b5, b6, b7]; omega
theorem step_idx (f : Fe) (t : Int) : Idx (gW f) (firstN f t) (stepOf f t) :=
 (moves_idx f t).append ((passes_idx f t).at (by rw [moves_length]; push_cast; omega))
theorem ways_idx (f : Fe) (h : 0 ≤ f.ticks) : Idx (gW f) 0 (waysL f) := by
 obtain ⟨g1, g2, g3, g4, g5, g6, g7, g8, e1, e2, e3, e4, e5, e6, e7, e8, e9⟩ := words_ne3
 have l1 : ((upTo (f.ticks + 1)).flatMap (staysOf f)).length = (f.ticks + 1).toNat * f.places.length := by
  rw [flat_length (c := f.places.length) _ (fun t _ => stays_length f t), upTo_length]
 have l2 : ((upTo f.ticks).flatMap (stepOf f)).length = f.ticks.toNat * (f.places.length * 5 + f.gates.length * 2) := by
  rw [flat_length _ (fun t _ => step_length f t), upTo_length]
 have l3 : (begins f).length = f.places.length := by simp [begins, numbered_length]
 have c1 : ((f.ticks + 1).toNat : Int) = f.ticks + 1 := by omega
 have c2 : (f.ticks.toNat : Int) = f.ticks := by omega
 have f0 : firstN f 0 = (f.ticks + 1) * f.places.length := by simp [firstN]
 refine (Idx.flat (c := f.places.length) _ _ fun i t ht => ⟨stays_length f t, ?_⟩).append ((Idx.flat (c := f.places.length * 5 + f.gates.length * 2) _ _ fun i t ht => ⟨step_length f t, ?_⟩).append (Idx.append ?_ ?_))
 ·obtain ⟨rfl, _⟩ := upTo_at ht
  exact (stays_idx f _).at (by simp)
 ·obtain ⟨rfl, _⟩ := upTo_at ht
  refine (step_idx f _).at ?_
  rw [l1]
  push_cast
  rw [c1]
  unfold firstN stepN
  rw [show (f.places.length : Int) * 5 + (f.gates.length : Int) * 2 = 5 * f.places.length + 2 * f.gates.length by omega]
  omega
 ·rw [l1, l2]
  push_cast
  rw [c1, c2]
  have hf : (f.ticks + 1) * (f.places.length : Int) + f.ticks * ((f.places.length : Int) * 5 + (f.gates.length : Int) * 2) = firstN f f.ticks := by
   unfold firstN stepN
   rw [show (f.places.length : Int) * 5 + (f.gates.length : Int) * 2 = 5 * f.places.length + 2 * f.gates.length by omega]
  refine Idx.map _ _ fun i x hx => ?_
  obtain ⟨p, x⟩ := x
  obtain ⟨h1, _⟩ := numbered_at hx
  simp only at h1
  subst h1
  simp only [gW, wyOf, idxW, g1, g2, g3, g4, g5, g6, g7, g8, if_false, if_true]
  omega
 ·rw [l1, l2, l3]
  push_cast
  rw [c1, c2]
  have hf : (f.ticks + 1) * (f.places.length : Int) + f.ticks * ((f.places.length : Int) * 5 + (f.gates.length : Int) * 2) = firstN f f.ticks := by
   unfold firstN stepN
   rw [show (f.places.length : Int) * 5 + (f.gates.length : Int) * 2 = 5 * f.places.length + 2 * f.gates.length by omega]
  refine Idx.map _ _ fun i x hx => ?_
  obtain ⟨p, x⟩ := x
  obtain ⟨h1, _⟩ := numbered_at hx
  simp only at h1
  subst h1
  simp only [gW, wyOf, idxW, e1, e2, e3, e4, e5, e6, e7, e8, e9, if_false]
  omega
theorem ways_length (f : Fe) (h : 0 ≤ f.ticks) : ((waysL f).length : Int) = countN f := by
 unfold waysL
 rw [List.length_append, List.length_append, List.length_append, flat_length (c := f.places.length) _ (fun t _ => stays_length f t), flat_length _ (fun t _ => step_length f t), upTo_length, upTo_length]
 simp only [begins, endsOf, List.length_map, numbered_length]
 have c1 : ((f.ticks + 1).toNat : Int) = f.ticks + 1 := by omega
 have c2 : (f.ticks.toNat : Int) = f.ticks := by omega
 push_cast
 rw [c1, c2]
 unfold countN firstN stepN
 rw [show (f.places.length : Int) * 5 + (f.gates.length : Int) * 2 = 5 * f.places.length + 2 * f.gates.length by omega]
 omega
end Go.Proofs.YtlppdgaogdpajaaGreatDoor
namespace Go.Proofs.YtlppdgaogdpajaaGreatDoor
open Go Go.RowKit Go.Shelf
def wyC (y : Wy) : List Value := [.int .i64 y.arc.src, .int .i64 y.arc.dst, .int .i64 y.arc.low, .int .i64 y.arc.high, .int .i64 y.arc.lowBy, .int .i64 y.arc.highBy, .string y.kind, .string y.name, .int .i64 y.plc, .int .i64 y.tick]
theorem wyC_len (y : Wy) : (wyC y).length = 10 := rfl
theorem wyC_one1 (y : Wy) : ∀ u ∈ wyC y, u.oneCell' = true := by
 intro u hu
 simp only [wyC, List.mem_cons, List.not_mem_nil, or_false] at hu
 rcases hu with rfl | rfl | rfl | rfl | rfl | rfl | rfl | rfl | rfl | rfl <;> rfl
theorem wy_cells {w : World} {b o : Nat} {y : Wy} (h : CellsAt w b o (wyC y)) : w.cell? ⟨b, o, none⟩ = some (.int .i64 y.arc.src) ∧ w.cell? ⟨b, o + 1, none⟩ = some (.int .i64 y.arc.dst) ∧ w.cell? ⟨b, o + 2, none⟩ = some (.int .i64 y.arc.low) ∧ w.cell? ⟨b, o + 3, none⟩ = some (.int .i64 y.arc.high) ∧ w.cell? ⟨b, o + 4, none⟩ = some (.int .i64 y.arc.lowBy) ∧ w.cell? ⟨b, o + 5, none⟩ = some (.int .i64 y.arc.highBy) ∧ w.cell? ⟨b, o + 6, none⟩ = some (.string y.kind) ∧ w.cell? ⟨b, o + 7, none⟩ = some (.string y.name) ∧ w.cell? ⟨b, o + 8, none⟩ = some (.int .i64 y.plc) ∧ w.cell? ⟨b, o + 9, none⟩ = some (.int .i64 y.tick) :=
 ⟨h 0 _ rfl, h 1 _ rfl, h 2 _ rfl, h 3 _ rfl, h 4 _ rfl, h 5 _ rfl, h 6 _ rfl, h 7 _ rfl, h 8 _ rfl, h 9 _ rfl⟩
abbrev OwnW (w' : World) (base : Nat) (v : Value) (l : List Wy) : Prop := w'.ownsRow base 155 10 v l.length (cellsL wyC l)
theorem way_info : (Tryz.prog.info? 155).map (fun i => (i.zero, i.size, i.bytes)) = some (some (.agg #[.int .i64 0, .int .i64 0, .int .i64 0, .int .i64 0, .int .i64 0, .int .i64 0, .string ByteArray.empty, .string ByteArray.empty, .int .i64 0, .int .i64 0]), 10, 96) := by kernel_rfl
theorem str_dec (a b : ByteArray) : (a.toList == b.toList) = decide (a = b) := by
 rw [Bool.eq_iff_iff, beq_iff_eq, decide_eq_true_eq]
 exact ⟨toList_inj, fun h => by rw [h]⟩
theorem ways_small {f : Fe} (h : checkE f = 0) : (waysL f).length ≤ 10000 := by
 have hr := right_of h
 have h1 := ways_length f (by have := hr.t1; omega)
 have h2 := (count_bd hr.small).2
 omega
end Go.Proofs.YtlppdgaogdpajaaGreatDoor
namespace Go.Proofs.YtlppdgaogdpajaaGreatDoor
open Go.RowKit Go.Shelf
attribute [local go_sem] Oper.semAt_some
def MadeW (w0 : World) (y : Wy) (u : Value) (W : World) : Prop := ∃ b, u = .slice (some ⟨b, 0, none⟩) 1 1 ∧ (∀ j u', (wyC y)[j]? = some u' → W.cell? ((⟨b, 0, none⟩ : Addr).add j) = some u') ∧ Below w0.heap.size w0 W
theorem madeW_below {w0 W : World} {y : Wy} {u : Value} (h : MadeW w0 y u W) : Below w0.heap.size w0 W := by obtain ⟨_, _, _, h⟩ := h; exact h
theorem madeW_later {w0 W W' : World} {y : Wy} {u : Value} (h : MadeW w0 y u W) (hb : Below W.heap.size W W') : MadeW w0 y u W' := by
 obtain ⟨b, rfl, h1, h2⟩ := h
 exact ⟨b, rfl, news_later h1 hb, bthen h2 hb⟩
theorem madeW_made {w0 W : World} (src dst high plc tick : Int) (kind name : ByteArray) (h : Below w0.heap.size w0 W) :
  MadeW w0 (wyOf src dst high kind name plc tick) (.slice (some ⟨W.heap.size, 0, none⟩) 1 1) (W.alloc (.cells #[.int .i64 src, .int .i64 dst, .int .i64 0, .int .i64 high, .int .i64 0, .int .i64 0, .string kind, .string name, .int .i64 plc, .int .i64 tick] 155)) :=
 ⟨W.heap.size, rfl, cells_new W _ _, bthen h (by go_grown)⟩
theorem c_rWay2 (src dst high plc tick : Int) (kind name : ByteArray) (w : World) : Calls Tryz.prog 187 #[.int .i64 src, .int .i64 dst, .int .i64 high, .string kind, .string name, .int .i64 plc, .int .i64 tick] w fun e w' => e = .returned (.agg #[.int .i64 src, .int .i64 dst, .int .i64 0, .int .i64 high, .int .i64 0, .int .i64 0, .string kind, .string name, .int .i64 plc, .int .i64 tick]) ∧ Below w.heap.size w w' := c_rWay src dst high plc tick kind name w
theorem ownW_snoc {w : World} {n : Nat} {v : Value} {l : List Wy} {y : Wy} (h : w.ownsRow n 155 10 v (l.length + 1) (cellsL wyC l ++ wyC y)) : OwnW w n v (l ++ [y]) := by
 unfold OwnW
 rw [show (l ++ [y]).length = l.length + 1 from by simp, cellsL_snoc]
 exact h
theorem pre_small {f : Fe} (h : checkE f = 0) {l : List Wy} (hp : l <+: waysL f) : l.length ≤ 10000 := Nat.le_trans hp.length_le (ways_small h)
set_option maxRecDepth 100000 in
set_option maxHeartbeats 8000000 in
theorem c_rWaysOf (m : Fm) (w : World) (hm : m.In w) (h : checkE m.f = 0) : Calls Tryz.prog 139 #[m.v] w fun e w' => ∃ v, e = .returned v ∧ OwnW w' w.heap.size v (waysL m.f) ∧ Below w.heap.size w w' := by
 have HM := Lib.hid hm
 have HC := Lib.hid h
 have hr := right_of h
 have hP8 := hr.p8
 have hG12 := hr.g12
 have hT1 := hr.t1
 have hT24 := hr.t24
 have HR := Lib.hid hr
 obtain ⟨T, hT⟩ : ∃ T : Nat, m.f.ticks = (T : Int) := ⟨m.f.ticks.toNat, by omega⟩
 have hb00 : (0 : Int) ≤ 0 ∧ (0 : Int) ≤ 25 := ⟨by omega, by omega⟩
 have hbT : 0 ≤ (T : Int) ∧ (T : Int) ≤ 25 := ⟨by omega, by omega⟩
 obtain ⟨i0, hi0, hz0, hz1, hz2⟩ := info_parts way_info
 clear hm h hr
 go_enter Tryz.func139, Tryz.ntmps139
 go_upto_region 1 with (fail)
 go_name_world W1 hW1
 have hb0 : Below w.heap.size w W1 := by subst hW1; go_grown
 obtain ⟨q0, q1, q2, q3⟩ := (show QB m W1 w.heap.size from by subst hW1; and_intros <;> go_simp)
 clear hW1 
 have HQ0 := Lib.hid (show CellsAt W1 w.heap.size 0 (feC m) from cells_4 q0 q1 q2 q3)
 have HB0 := Lib.hid hb0
 have hzW := hb0.size
 clear q0 q1 q2 q3 hb0
 go_wp2
 go_loopw [3, 4] (fun v3 v4 wr => ∃ t : Nat, t ≤ T + 1 ∧ v4 = .int .i64 t ∧ OwnW wr W1.heap.size v3 (P1 m.f t 0) ∧ Below W1.heap.size W1 wr) (fun _ v4 _ => T + 1 - (intOf v4).toNat)
 case atStart => exact ⟨0, by omega, rfl, by rw [P1_0]; exact World.ownsRow_nil _ _ _ _, Below.refl _ _⟩
 case round =>
  obtain ⟨t, ht, rfl, hown, hb⟩ := hrel
  have HO := Lib.hid hown
  have HB := Lib.hid hb
  clear hown hb
  obtain ⟨q0, q1, q2, q3⟩ := fe_cells (HQ0.out.later HB.out)
  simp only [Nat.zero_add] at q0 q1 q2 q3
  rw [hT] at q0
  by_cases hlt : t ≤ T
  ·have hcd : (t : Int) ≤ (T : Int) := by omega
   have htk : (t : Int) < m.f.ticks + 1 := by omega
   have hbt : 0 ≤ (t : Int) ∧ (t : Int) ≤ 25 := ⟨by omega, by omega⟩
   go_wp2
   go_loopw [3, 5] (fun v3 v5 wi => ∃ p : Nat, p ≤ m.f.places.length ∧ v5 = .int .i64 p ∧ OwnW wi W1.heap.size v3 (P1 m.f t p) ∧ Below W1.heap.size W1 wi) (fun _ v5 _ => m.f.places.length - (intOf v5).toNat)
   case atStart => exact ⟨0, by omega, rfl, HO.out, HB.out⟩
   case round =>
    clear HB
    obtain ⟨p, hp, rfl, hown, hb⟩ := hrel
    have HO := Lib.hid hown
    have HB := Lib.hid hb
    clear hown hb
    obtain ⟨q0, q1, q2, q3⟩ := fe_cells (HQ0.out.later HB.out)
    simp only [Nat.zero_add] at q0 q1 q2 q3
    by_cases hlp : p < m.f.places.length
    ·have hcd : (p : Int) < (m.f.places.length : Int) := by omega
     obtain ⟨x, hx⟩ := some_at hlp
     obtain ⟨pb, po, hpa, hat⟩ := (HM.out.later (bthen HB0.out HB.out)).pl.at hx
     obtain ⟨y0, y1⟩ := pl_cells hat
     have hpi : ¬ (p : Int) < 0 := by omega
     have hbp : 0 ≤ (p : Int) ∧ (p : Int) ≤ 8 := ⟨by omega, by omega⟩
     have hpi2 : (p : Int) < (m.f.places.length : Int) := by omega
     have HMV := Lib.hid (show m.v = .agg #[.int .i64 (T : Int), .int .i64 m.f.yields, .slice (some ⟨pb, po, none⟩) m.f.places.length m.pc, .slice m.ga m.f.gates.length m.gc] from by unfold Fm.v; rw [hT, hpa])
     rw [hpa] at q2
     clear hat y1 hpa
     have hpl := pre_small HC.out (P1_pre htk p)
     go_upto_region 8 with (fail)
     refine wp_region_maker 18 wr (MadeW wr (wyOf (nodeN m.f p t) (nodeN m.f p t + 1) (1000) wStay x.name (p) (t))) (by kernel_rfl) (by kernel_rfl) (by kernel_rfl) (by rfl) (by rfl) (Below.refl _ _) (fun u W h => madeW_below h) (fun u W W' h hb => madeW_later h hb) (e := ?ee1) ?hq ?hmk ?ht
     case hq =>
      intro W5 hB5
      have k0 := later_cell (later_of hB5 q0)
      have k1 := later_cell (later_of hB5 q1)
      have k2 := later_cell (later_of hB5 q2)
      have k3 := later_cell (later_of hB5 q3)
      have k4 := later_cell (later_of hB5 y0)
      have HA0 := Lib.hid (fun (x1 : Later W5) => HMV.out ▸ c_rArriving m (p : Int) (t : Int) x1.1 hbp hbt hP8)
      have HA1 := Lib.hid (fun (x1 : Later W5) => HMV.out ▸ c_rLeaving m (p : Int) (t : Int) x1.1 hbp hbt hP8)
      have HA2 := Lib.hid (fun (x1 : Later W5) => c_rWay2 (nodeN m.f p t) (nodeN m.f p t + 1) (1000) (p) (t) ⟨#[115, 116, 97, 121]⟩ x.name x1.1)
      simp only [List.take_succ_cons, List.take_zero]
      repeat (go_big_quiet_step (first | (go_at_call 188; with_reducible exact in_region (HA0.out _)) | (go_at_call 189; with_reducible exact in_region (HA1.out _)) | (go_at_call 187; with_reducible exact in_region (HA2.out _))))
      refine wpQuiet_nil ?_
      rfl
     case hmk =>
      intro W5 hB5
      exact ⟨_, _, by go_simp; rfl, madeW_made (nodeN m.f p t) (nodeN m.f p t + 1) (1000) (p) (t) _ x.name hB5⟩
     case ht =>
      rintro u W5 ⟨b5, rfl, hnews, hB5⟩
      simp only [List.drop_succ_cons, List.drop_zero]
      have HNW := Lib.hid hnews
      have HO5 := Lib.hid (own_below HO.out hB5)
      have HB5 := Lib.hid (bthen HB.out hB5)
      clear hnews hB5 q0 q1 q2 q3 y0
      go_wp2_with (at_builtin; refine stuckHere ?_)
      refine unHid ?_
      refine wpList_append_own_at _ rfl _ _ 152 rfl W1.heap.size 155 i0 _ 10 96 Tryz.underlying152 hi0 hz0 hz1 hz2 rfl (by decide) _ _ _ rfl (HO5.out) ⟨_, 0, none⟩ 1 1 (wyC (wyOf (nodeN m.f p t) (nodeN m.f p t + 1) (1000) wStay x.name (p) (t))) rfl rfl (HNW.out) (wyC_one1 _) (by unfold maxLen; first | omega | (simp only [List.length_append, List.length_cons, List.length_nil]; omega)) (by first | omega | (simp only [List.length_append, List.length_cons, List.length_nil]; omega)) (by have hzz := HB5.out.size; first | exact hzz | (simp; omega)) ?_
      intro v1 w1 hown hgrow _ _
      have HO1 := Lib.hid (ownW_snoc hown)
      have HB1 := Lib.hid ((show Below W1.heap.size W1 _ from by have hb0 := HB5.out; have hbz := hb0.size; go_grown).trans ((kept_of_grown hgrow).below (by have hzz := HB5.out.size; first | exact hzz | (simp; omega)) (fun j hj => (HO5.out.lt j hj).1)))
      clear hown hgrow
      have HS := Lib.hid (P1_step (t := t) hx)
      clear hx
      go_wp2
      go_roundw
      case rel => exact ⟨p + 1, by omega, by go_num, by rw [HS.out]; exact HO1.out, HB1.out⟩
      case measure => simp [intOf]; omega
    ·obtain rfl : p = m.f.places.length := by omega
     have hcd : ¬ (m.f.places.length : Int) < (m.f.places.length : Int) := by omega
     have HOE := Lib.hid (show OwnW wr W1.heap.size _ (P1 m.f (t + 1) 0) from by rw [← P1_next htk]; exact HO.out)
     go_wp2
     go_roundw
     case rel => exact ⟨t + 1, by omega, by go_num, HOE.out, HB.out⟩
     case measure => simp [intOf]; omega
  ·obtain rfl : t = T + 1 := by omega
   have hcd : ¬ ((T + 1 : Nat) : Int) ≤ (T : Int) := by omega
   have HO2 := Lib.hid (show OwnW wr W1.heap.size _ (P2 m.f 0 0) from by rw [← P2_0 (t := T + 1) (by omega)]; exact HO.out)
   clear HO q1 q2 q3
   go_wp2
   clear q0
   go_loopw [3, 6] (fun v3 v6 wr => ∃ t : Nat, t ≤ T ∧ v6 = .int .i64 t ∧ OwnW wr W1.heap.size v3 (P2 m.f t 0) ∧ Below W1.heap.size W1 wr) (fun _ v6 _ => T - (intOf v6).toNat)
   case atStart => exact ⟨0, by omega, rfl, HO2.out, HB.out⟩
   case round =>
    clear HO2 HB
    obtain ⟨t, ht, rfl, hown, hb⟩ := hrel
    have HO := Lib.hid hown
    have HB := Lib.hid hb
    clear hown hb
    obtain ⟨q0, q1, q2, q3⟩ := fe_cells (HQ0.out.later HB.out)
    simp only [Nat.zero_add] at q0 q1 q2 q3
    rw [hT] at q0
    by_cases hlt : t < T
    ·have hcd : (t : Int) < (T : Int) := by omega
     have htk : (t : Int) < m.f.ticks := by omega
     have hbt : 0 ≤ (t : Int) ∧ (t : Int) ≤ 25 := ⟨by omega, by omega⟩
     have hbt1 : 0 ≤ (t : Int) + 1 ∧ (t : Int) + 1 ≤ 25 := ⟨by omega, by omega⟩
     go_wp2
     go_loopw [3, 7] (fun v3 v7 wi => ∃ p : Nat, p ≤ m.f.places.length ∧ v7 = .int .i64 p ∧ OwnW wi W1.heap.size v3 (P2 m.f t p) ∧ Below W1.heap.size W1 wi) (fun _ v7 _ => m.f.places.length - (intOf v7).toNat)
     case atStart => exact ⟨0, by omega, rfl, HO.out, HB.out⟩
     case round =>
      clear HB
      obtain ⟨p, hp, rfl, hown, hb⟩ := hrel
      have HO := Lib.hid hown
      have HB := Lib.hid hb
      clear hown hb
      obtain ⟨q0, q1, q2, q3⟩ := fe_cells (HQ0.out.later HB.out)
      simp only [Nat.zero_add] at q0 q1 q2 q3
      by_cases hlp : p < m.f.places.length
      ·have hcd : (p : Int) < (m.f.places.length : Int) := by omega
       obtain ⟨x, hx⟩ := some_at hlp
       obtain ⟨pb, po, hpa, hat⟩ := (HM.out.later (bthen HB0.out HB.out)).pl.at hx
       obtain ⟨y0, y1⟩ := pl_cells hat
       have hpi : ¬ (p : Int) < 0 := by omega
       have hbp : 0 ≤ (p : Int) ∧ (p : Int) ≤ 8 := ⟨by omega, by omega⟩
       have hpi2 : (p : Int) < (m.f.places.length : Int) := by omega
       have HMV := Lib.hid (show m.v = .agg #[.int .i64 (T : Int), .int .i64 m.f.yields, .slice (some ⟨pb, po, none⟩) m.f.places.length m.pc, .slice m.ga m.f.gates.length m.gc] from by unfold Fm.v; rw [hT, hpa])
       rw [hpa] at q2
       clear hat y1 hpa
       have hpl := pre_small HC.out (P2_pre htk (p + 1))
       have hps := P2_step (f := m.f) (t := t) hx
       have hlen := congrArg List.length hps
       simp only [List.length_append, List.length_cons, List.length_nil] at hlen
       have HPS := Lib.hid hps
       rw [hlen] at hpl
       clear hlen hps
       have hLv := fun W => c_rLeaving m (p : Int) (t : Int) W hbp hbt hP8
       rw [HMV.out] at hLv
       have hAr := fun W => c_rArriving m (p : Int) ((t : Int) + 1) W hbp hbt1 hP8
       rw [HMV.out] at hAr
       obtain ⟨nl, hnl⟩ : ∃ n, nodeN m.f (p : Int) (t : Int) + 1 = n := ⟨_, rfl⟩
       obtain ⟨na, hna⟩ : ∃ n, nodeN m.f (p : Int) ((t : Int) + 1) = n := ⟨_, rfl⟩
       rw [hnl] at hLv
       rw [hna] at hAr
       have HLv := Lib.hid hLv
       have HAr := Lib.hid hAr
       have HNL := Lib.hid hnl
       have HNA := Lib.hid hna
       clear hLv hAr hnl hna
       go_wp2_with fail
       refine (HLv.out _).mono ?_
       rintro E W20 ⟨rfl, hB⟩
       have zz := cl4 hB q0 q1 q2 q3
       clear q0 q1 q2 q3
       obtain ⟨q0, q1, q2, q3⟩ := zz
       have hb1 := bthen HB.out hB
       have ho1 := own_below HO.out hB
       clear hB
       go_wp2_with fail
       refine (HAr.out _).mono ?_
       rintro E W21 ⟨rfl, hB⟩
       have HOc := Lib.hid (own_below ho1 hB)
       have HBc := Lib.hid (bthen hb1 hB)
       clear hB hb1 ho1 q0 q1 q2 q3
       have HW := Lib.hid (fun W => c_rWay2 (nl) (na) (1000) (p : Int) (t : Int) ⟨#[114, 101, 115, 116]⟩ x.name W)
       go_wp2_with fail
       refine (HW.out _).mono ?_
       rintro E W31 ⟨rfl, hB⟩
       have HOx1 := Lib.hid (own_below HOc.out hB)
       have HBx1 := Lib.hid (bthen HBc.out hB)
       have hzx1 := HBx1.out.size
       clear hB HW
       go_wp2_with (at_builtin; refine stuckHere ?_)
       refine unHid ?_
       refine wpList_append_own_at _ rfl _ _ 152 rfl W1.heap.size 155 i0 _ 10 96 Tryz.underlying152 hi0 hz0 hz1 hz2 rfl (by decide) _ _ _ rfl (HOx1.out.alloc _) ⟨_, 0, none⟩ 1 1 (wyC (wyOf (nl) (na) (1000) wRest x.name (p) (t))) rfl rfl (cells_new _ #[_, _, _, _, _, _, _, _, _, _] _) (wyC_one1 _) (by unfold maxLen; first | omega | (simp only [List.length_append, List.length_cons, List.length_nil]; omega)) (by first | omega | (simp only [List.length_append, List.length_cons, List.length_nil]; omega)) (by have hzz := HBx1.out.size; first | exact hzz | (simp; omega)) ?_
       intro v1 w1 hown hgrow _ _
       have HO1 := Lib.hid (ownW_snoc hown)
       have HB1 := Lib.hid ((show Below W1.heap.size W1 _ from by have hb0 := HBx1.out; have hbz := hb0.size; go_grown).trans ((kept_of_grown hgrow).below (by have hzz := HBx1.out.size; first | exact hzz | (simp; omega)) (fun j hj => (HOx1.out.lt j hj).1)))
       clear hown hgrow
       obtain ⟨_, q1, _, _⟩ := fe_cells (HQ0.out.later HB1.out)
       simp only [Nat.zero_add] at q1
       have HW := Lib.hid (fun W => c_rWay2 (0) (na) (m.f.yields) (p : Int) (t : Int) ⟨#[98, 111, 114, 110]⟩ x.name W)
       go_wp2_with fail
       refine (HW.out _).mono ?_
       rintro E W32 ⟨rfl, hB⟩
       have HOx2 := Lib.hid (own_below HO1.out hB)
       have HBx2 := Lib.hid (bthen HB1.out hB)
       have hzx2 := HBx2.out.size
       clear hB HW q1
       go_wp2_with (at_builtin; refine stuckHere ?_)
       refine unHid ?_
       refine wpList_append_own_at _ rfl _ _ 152 rfl W1.heap.size 155 i0 _ 10 96 Tryz.underlying152 hi0 hz0 hz1 hz2 rfl (by decide) _ _ _ rfl (HOx2.out.alloc _) ⟨_, 0, none⟩ 1 1 (wyC (wyOf (0) (na) (m.f.yields) wBorn x.name (p) (t))) rfl rfl (cells_new _ #[_, _, _, _, _, _, _, _, _, _] _) (wyC_one1 _) (by unfold maxLen; first | omega | (simp only [List.length_append, List.length_cons, List.length_nil]; omega)) (by first | omega | (simp only [List.length_append, List.length_cons, List.length_nil]; omega)) (by have hzz := HBx2.out.size; first | exact hzz | (simp; omega)) ?_
       intro v2 w2 hown hgrow _ _
       have HO2 := Lib.hid (ownW_snoc hown)
       have HB2 := Lib.hid ((show Below W1.heap.size W1 _ from by have hb0 := HBx2.out; have hbz := hb0.size; go_grown).trans ((kept_of_grown hgrow).below (by have hzz := HBx2.out.size; first | exact hzz | (simp; omega)) (fun j hj => (HOx2.out.lt j hj).1)))
       clear hown hgrow
       obtain ⟨_, q1, _, _⟩ := fe_cells (HQ0.out.later HB2.out)
       simp only [Nat.zero_add] at q1
       have HW := Lib.hid (fun W => c_rWay2 (nl) (0) (m.f.yields) (p : Int) (t : Int) ⟨#[100, 101, 97, 100]⟩ x.name W)
       go_wp2_with fail
       refine (HW.out _).mono ?_
       rintro E W33 ⟨rfl, hB⟩
       have HOx3 := Lib.hid (own_below HO2.out hB)
       have HBx3 := Lib.hid (bthen HB2.out hB)
       have hzx3 := HBx3.out.size
       clear hB HW q1
       go_wp2_with (at_builtin; refine stuckHere ?_)
       refine unHid ?_
       refine wpList_append_own_at _ rfl _ _ 152 rfl W1.heap.size 155 i0 _ 10 96 Tryz.underlying152 hi0 hz0 hz1 hz2 rfl (by decide) _ _ _ rfl (HOx3.out.alloc _) ⟨_, 0, none⟩ 1 1 (wyC (wyOf (nl) (0) (m.f.yields) wDead x.name (p) (t))) rfl rfl (cells_new _ #[_, _, _, _, _, _, _, _, _, _] _) (wyC_one1 _) (by unfold maxLen; first | omega | (simp only [List.length_append, List.length_cons, List.length_nil]; omega)) (by first | omega | (simp only [List.length_append, List.length_cons, List.length_nil]; omega)) (by have hzz := HBx3.out.size; first | exact hzz | (simp; omega)) ?_
       intro v3 w3 hown hgrow _ _
       have HO3 := Lib.hid (ownW_snoc hown)
       have HB3 := Lib.hid ((show Below W1.heap.size W1 _ from by have hb0 := HBx3.out; have hbz := hb0.size; go_grown).trans ((kept_of_grown hgrow).below (by have hzz := HBx3.out.size; first | exact hzz | (simp; omega)) (fun j hj => (HOx3.out.lt j hj).1)))
       clear hown hgrow
       obtain ⟨_, q1, _, _⟩ := fe_cells (HQ0.out.later HB3.out)
       simp only [Nat.zero_add] at q1
       have HW := Lib.hid (fun W => c_rWay2 (0) (na) (m.f.yields) (p : Int) (t : Int) ⟨#[98, 111, 117, 103, 104, 116]⟩ x.name W)
       go_wp2_with fail
       refine (HW.out _).mono ?_
       rintro E W34 ⟨rfl, hB⟩
       have HOx4 := Lib.hid (own_below HO3.out hB)
       have HBx4 := Lib.hid (bthen HB3.out hB)
       have hzx4 := HBx4.out.size
       clear hB HW q1
       go_wp2_with (at_builtin; refine stuckHere ?_)
       refine unHid ?_
       refine wpList_append_own_at _ rfl _ _ 152 rfl W1.heap.size 155 i0 _ 10 96 Tryz.underlying152 hi0 hz0 hz1 hz2 rfl (by decide) _ _ _ rfl (HOx4.out.alloc _) ⟨_, 0, none⟩ 1 1 (wyC (wyOf (0) (na) (m.f.yields) wBought x.name (p) (t))) rfl rfl (cells_new _ #[_, _, _, _, _, _, _, _, _, _] _) (wyC_one1 _) (by unfold maxLen; first | omega | (simp only [List.length_append, List.length_cons, List.length_nil]; omega)) (by first | omega | (simp only [List.length_append, List.length_cons, List.length_nil]; omega)) (by have hzz := HBx4.out.size; first | exact hzz | (simp; omega)) ?_
       intro v4 w4 hown hgrow _ _
       have HO4 := Lib.hid (ownW_snoc hown)
       have HB4 := Lib.hid ((show Below W1.heap.size W1 _ from by have hb0 := HBx4.out; have hbz := hb0.size; go_grown).trans ((kept_of_grown hgrow).below (by have hzz := HBx4.out.size; first | exact hzz | (simp; omega)) (fun j hj => (HOx4.out.lt j hj).1)))
       clear hown hgrow
       obtain ⟨_, q1, _, _⟩ := fe_cells (HQ0.out.later HB4.out)
       simp only [Nat.zero_add] at q1
       have HW := Lib.hid (fun W => c_rWay2 (nl) (0) (m.f.yields) (p : Int) (t : Int) ⟨#[115, 111, 108, 100]⟩ x.name W)
       go_wp2_with fail
       refine (HW.out _).mono ?_
       rintro E W35 ⟨rfl, hB⟩
       have HOx5 := Lib.hid (own_below HO4.out hB)
       have HBx5 := Lib.hid (bthen HB4.out hB)
       have hzx5 := HBx5.out.size
       clear hB HW q1
       go_wp2_with (at_builtin; refine stuckHere ?_)
       refine unHid ?_
       refine wpList_append_own_at _ rfl _ _ 152 rfl W1.heap.size 155 i0 _ 10 96 Tryz.underlying152 hi0 hz0 hz1 hz2 rfl (by decide) _ _ _ rfl (HOx5.out.alloc _) ⟨_, 0, none⟩ 1 1 (wyC (wyOf (nl) (0) (m.f.yields) wSold x.name (p) (t))) rfl rfl (cells_new _ #[_, _, _, _, _, _, _, _, _, _] _) (wyC_one1 _) (by unfold maxLen; first | omega | (simp only [List.length_append, List.length_cons, List.length_nil]; omega)) (by first | omega | (simp only [List.length_append, List.length_cons, List.length_nil]; omega)) (by have hzz := HBx5.out.size; first | exact hzz | (simp; omega)) ?_
       intro v5 w5 hown hgrow _ _
       have HO5 := Lib.hid (ownW_snoc hown)
       have HB5 := Lib.hid ((show Below W1.heap.size W1 _ from by have hb0 := HBx5.out; have hbz := hb0.size; go_grown).trans ((kept_of_grown hgrow).below (by have hzz := HBx5.out.size; first | exact hzz | (simp; omega)) (fun j hj => (HOx5.out.lt j hj).1)))
       clear hown hgrow
       have HS := Lib.hid (show OwnW w5 W1.heap.size v5 (P2 m.f t (p + 1)) from by rw [HPS.out, HNL.out, HNA.out]; exact HO5.out)
       clear hx
       go_wp2
       go_roundw
       case rel => exact ⟨p + 1, by omega, by go_num, HS.out, HB5.out⟩
       case measure => simp [intOf]; omega
      ·obtain rfl : p = m.f.places.length := by omega
       have hcd : ¬ (m.f.places.length : Int) < (m.f.places.length : Int) := by omega
       have HO3 := Lib.hid (show OwnW wr W1.heap.size _ (P3 m.f t 0) from by rw [← P3_0]; exact HO.out)
       clear HO q0 q1
       go_wp2
       clear q2 q3
       go_loopw [3, 11] (fun v3 v11 wi => ∃ i : Nat, i ≤ m.f.gates.length ∧ v11 = .int .i64 i ∧ OwnW wi W1.heap.size v3 (P3 m.f t i) ∧ Below W1.heap.size W1 wi) (fun _ v11 _ => m.f.gates.length - (intOf v11).toNat)
       case atStart => exact ⟨0, by omega, rfl, HO3.out, HB.out⟩
       case round =>
        clear HO3 HB
        obtain ⟨i, hi, rfl, hown, hb⟩ := hrel
        have HO := Lib.hid hown
        have HB := Lib.hid hb
        clear hown hb
        obtain ⟨q0, q1, q2, q3⟩ := fe_cells (HQ0.out.later HB.out)
        simp only [Nat.zero_add] at q0 q1 q2 q3
        by_cases hlg : i < m.f.gates.length
        ·have hcg : (i : Int) < (m.f.gates.length : Int) := by omega
         obtain ⟨g, hx⟩ := some_at hlg
         obtain ⟨gb, go', hga, hat⟩ := (HM.out.later (bthen HB0.out HB.out)).gt.at hx
         obtain ⟨y0, y1, y2, y3⟩ := gt_cells hat
         have hgi : ¬ (i : Int) < 0 := by omega
         obtain ⟨ga, gbb⟩ := ends_of HR.out (some_mem hx)
         have hba : 0 ≤ g.a ∧ g.a ≤ 8 := ⟨by omega, by omega⟩
         have hbb : 0 ≤ g.b ∧ g.b ≤ 8 := ⟨by omega, by omega⟩
         clear ga gbb
         have HMV := Lib.hid (show m.v = .agg #[.int .i64 (T : Int), .int .i64 m.f.yields, .slice m.pa m.f.places.length m.pc, .slice (some ⟨gb, go', none⟩) m.f.gates.length m.gc] from by unfold Fm.v; rw [hT, hga])
         rw [hga] at q3
         clear hat
         go_upto_region 27 with (fail)
         have hzr := HB.out.size
         have HO7 := HO
         obtain ⟨W7, hW7⟩ : ∃ x, x = wr := ⟨_, rfl⟩
         subst hW7
         go_name_world W8 hW8
         have hB : Below W7.heap.size W7 W8 := by subst hW8; go_grown
         have z0 : W8.cell? ⟨W7.heap.size, 0, none⟩ = some (.string g.name) := by subst hW8; go_simp
         have z1 : W8.cell? ⟨W7.heap.size, 1, none⟩ = some (.int .i64 g.a) := by subst hW8; go_simp
         have z2 : W8.cell? ⟨W7.heap.size, 2, none⟩ = some (.int .i64 g.b) := by subst hW8; go_simp
         have z3 : W8.cell? ⟨W7.heap.size, 3, none⟩ = some (.int .i64 g.most) := by subst hW8; go_simp
         have HO8 := Lib.hid (own_below HO.out hB)
         have HB8 := Lib.hid (bthen HB.out hB)
         clear hW8 hB y0 y1 y2 y3 q0 q1 q2 q3 HO HB
         obtain ⟨q0, q1, q2, q3⟩ := fe_cells (HQ0.out.later HB8.out)
         simp only [Nat.zero_add] at q0 q1 q2 q3
         rw [hT] at q0
         rw [hga] at q3
         have hps := P3_step (f := m.f) (t := t) hx
         have hpre := P3_pre htk (i + 1)
         have hpl2 := pre_small HC.out hpre
         rw [hps] at hpl2
         simp only [List.length_append, List.length_cons, List.length_nil] at hpl2
         have HPS := Lib.hid hps
         have hw1 : wrap64 ((t : Int) + 1) = (t : Int) + 1 := Go.IntWalk.wrap64_in _ (by omega)
         clear hps hpre hx
         have hpl := pre_small HC.out (P3_pre htk i)
         
         refine wp_region_maker 19 W8 (MadeW W8 (wyOf (nodeN m.f g.a t + 1) (nodeN m.f g.b (t + 1)) (g.most) wPass g.name (i) (t))) (by kernel_rfl) (by kernel_rfl) (by kernel_rfl) (by rfl) (by rfl) (Below.refl _ _) (fun u W h => madeW_below h) (fun u W W' h hb => madeW_later h hb) (e := ?ee2) ?hq ?hmk ?ht
         case hq =>
          intro W5 hB5
          have k0 := later_cell (later_of hB5 q0)
          have k1 := later_cell (later_of hB5 q1)
          have k2 := later_cell (later_of hB5 q2)
          have k3 := later_cell (later_of hB5 q3)
          have k4 := later_cell (later_of hB5 z0)
          have k5 := later_cell (later_of hB5 z1)
          have k6 := later_cell (later_of hB5 z2)
          have k7 := later_cell (later_of hB5 z3)
          have HA0 := Lib.hid (fun (x1 : Later W5) => HMV.out ▸ c_rLeaving m g.a (t : Int) x1.1 hba hbt hP8)
          have HA1 := Lib.hid (fun (x1 : Later W5) => HMV.out ▸ c_rArriving m g.b ((t : Int) + 1) x1.1 hbb hbt1 hP8)
          have HA2 := Lib.hid (fun (x1 : Later W5) => c_rWay2 (nodeN m.f g.a t + 1) (nodeN m.f g.b (t + 1)) (g.most) (i) (t) ⟨#[112, 97, 115, 115]⟩ g.name x1.1)
          simp only [List.take_succ_cons, List.take_zero]
          repeat (go_big_quiet_step (first | (go_at_call 189; with_reducible exact in_region (HA0.out _)) | (go_at_call 188; with_reducible exact in_region (HA1.out _)) | (go_at_call 187; with_reducible exact in_region (HA2.out _))))
          refine wpQuiet_nil ?_
          rfl
         case hmk =>
          intro W5 hB5
          exact ⟨_, _, by go_simp; rfl, madeW_made (nodeN m.f g.a t + 1) (nodeN m.f g.b (t + 1)) (g.most) (i) (t) _ g.name hB5⟩
         case ht =>
          rintro u W5 ⟨b5, rfl, hnews, hB5⟩
          simp only [List.drop_succ_cons, List.drop_zero]
          have HNW := Lib.hid hnews
          have HO5 := Lib.hid (own_below HO8.out hB5)
          have HB5 := Lib.hid (bthen HB8.out hB5)
          have z0k := Lib.hid (later_of hB5 z0)
          have z1k := Lib.hid (later_of hB5 z1)
          have z2k := Lib.hid (later_of hB5 z2)
          have z3k := Lib.hid (later_of hB5 z3)
          clear hnews hB5 q0 q1 q2 q3 z0 z1 z2 z3
          go_wp2_with (at_builtin; refine stuckHere ?_)
          refine unHid ?_
          refine wpList_append_own_at _ rfl _ _ 152 rfl W1.heap.size 155 i0 _ 10 96 Tryz.underlying152 hi0 hz0 hz1 hz2 rfl (by decide) _ _ _ rfl (HO5.out) ⟨_, 0, none⟩ 1 1 (wyC (wyOf (nodeN m.f g.a t + 1) (nodeN m.f g.b (t + 1)) (g.most) wPass g.name (i) (t))) rfl rfl (HNW.out) (wyC_one1 _) (by unfold maxLen; first | omega | (simp only [List.length_append, List.length_cons, List.length_nil]; omega)) (by first | omega | (simp only [List.length_append, List.length_cons, List.length_nil]; omega)) (by have hzz := HB5.out.size; first | exact hzz | (simp; omega)) ?_
          intro v1 w1 hown hgrow _ _
          have HO1 := Lib.hid (ownW_snoc hown)
          have HB1 := Lib.hid ((show Below W1.heap.size W1 _ from by have hb0 := HB5.out; have hbz := hb0.size; go_grown).trans ((kept_of_grown hgrow).below (by have hzz := HB5.out.size; first | exact hzz | (simp; omega)) (fun j hj => (HO5.out.lt j hj).1)))
          have z0 := hgrow.cell z0k.out (fun e => Nat.lt_irrefl _ (HO7.out.lt _ e.symm).2)
          have z1 := hgrow.cell z1k.out (fun e => Nat.lt_irrefl _ (HO7.out.lt _ e.symm).2)
          have z2 := hgrow.cell z2k.out (fun e => Nat.lt_irrefl _ (HO7.out.lt _ e.symm).2)
          have z3 := hgrow.cell z3k.out (fun e => Nat.lt_irrefl _ (HO7.out.lt _ e.symm).2)
          clear hown hgrow
          obtain ⟨q0, q1, q2, q3⟩ := fe_cells (HQ0.out.later HB1.out)
          simp only [Nat.zero_add] at q0 q1 q2 q3
          rw [hT] at q0
          rw [hga] at q3
          clear hpl
          have hl1 : (P3 m.f t i ++ [wyOf (nodeN m.f g.a t + 1) (nodeN m.f g.b (t + 1)) g.most wPass g.name i t]).length ≤ 10000 := by rw [List.length_append]; simp only [List.length_cons, List.length_nil]; omega
          have hpl := pre_small HC.out (P3_pre htk i)
          go_upto_region 28 with (fail)
          refine wp_region_maker 19 w1 (MadeW w1 (wyOf (nodeN m.f g.b t + 1) (nodeN m.f g.a (t + 1)) (g.most) wBack g.name (i) (t))) (by kernel_rfl) (by kernel_rfl) (by kernel_rfl) (by rfl) (by rfl) (Below.refl _ _) (fun u W h => madeW_below h) (fun u W W' h hb => madeW_later h hb) (e := ?ee3) ?hq ?hmk ?ht
          case hq =>
           intro W5 hB5
           have k0 := later_cell (later_of hB5 q0)
           have k1 := later_cell (later_of hB5 q1)
           have k2 := later_cell (later_of hB5 q2)
           have k3 := later_cell (later_of hB5 q3)
           have k4 := later_cell (later_of hB5 z0)
           have k5 := later_cell (later_of hB5 z1)
           have k6 := later_cell (later_of hB5 z2)
           have k7 := later_cell (later_of hB5 z3)
           have HA0 := Lib.hid (fun (x1 : Later W5) => HMV.out ▸ c_rLeaving m g.b (t : Int) x1.1 hbb hbt hP8)
           have HA1 := Lib.hid (fun (x1 : Later W5) => HMV.out ▸ c_rArriving m g.a ((t : Int) + 1) x1.1 hba hbt1 hP8)
           have HA2 := Lib.hid (fun (x1 : Later W5) => c_rWay2 (nodeN m.f g.b t + 1) (nodeN m.f g.a (t + 1)) (g.most) (i) (t) ⟨#[98, 97, 99, 107]⟩ g.name x1.1)
           simp only [List.take_succ_cons, List.take_zero]
           repeat (go_big_quiet_step (first | (go_at_call 189; with_reducible exact in_region (HA0.out _)) | (go_at_call 188; with_reducible exact in_region (HA1.out _)) | (go_at_call 187; with_reducible exact in_region (HA2.out _))))
           refine wpQuiet_nil ?_
           rfl
          case hmk =>
           intro W5 hB5
           exact ⟨_, _, by go_simp; rfl, madeW_made (nodeN m.f g.b t + 1) (nodeN m.f g.a (t + 1)) (g.most) (i) (t) _ g.name hB5⟩
          case ht =>
           rintro u W5 ⟨b5, rfl, hnews, hB5⟩
           simp only [List.drop_succ_cons, List.drop_zero]
           have HNW := Lib.hid hnews
           have HO5 := Lib.hid (own_below HO1.out hB5)
           have HB5 := Lib.hid (bthen HB1.out hB5)
           clear hnews hB5 q0 q1 q2 q3 z0 z1 z2 z3
           go_wp2_with (at_builtin; refine stuckHere ?_)
           refine unHid ?_
           refine wpList_append_own_at _ rfl _ _ 152 rfl W1.heap.size 155 i0 _ 10 96 Tryz.underlying152 hi0 hz0 hz1 hz2 rfl (by decide) _ _ _ rfl (HO5.out) ⟨_, 0, none⟩ 1 1 (wyC (wyOf (nodeN m.f g.b t + 1) (nodeN m.f g.a (t + 1)) (g.most) wBack g.name (i) (t))) rfl rfl (HNW.out) (wyC_one1 _) (by unfold maxLen; first | omega | (simp only [List.length_append, List.length_cons, List.length_nil]; omega)) (by first | omega | (simp only [List.length_append, List.length_cons, List.length_nil]; omega)) (by have hzz := HB5.out.size; first | exact hzz | (simp; omega)) ?_
           intro v2 w2 hown hgrow _ _
           have HO2 := Lib.hid (ownW_snoc hown)
           have HB2 := Lib.hid ((show Below W1.heap.size W1 _ from by have hb0 := HB5.out; have hbz := hb0.size; go_grown).trans ((kept_of_grown hgrow).below (by have hzz := HB5.out.size; first | exact hzz | (simp; omega)) (fun j hj => (HO5.out.lt j hj).1)))
           clear hown hgrow
           have HS := Lib.hid (show OwnW w2 W1.heap.size v2 (P3 m.f t (i + 1)) from by rw [HPS.out]; exact HO2.out)
           go_wp2
           go_roundw
           case rel => exact ⟨i + 1, by omega, by go_num, HS.out, HB2.out⟩
           case measure => simp [intOf]; omega
        ·obtain rfl : i = m.f.gates.length := by omega
         have hcg : ¬ (m.f.gates.length : Int) < (m.f.gates.length : Int) := by omega
         have HOE := Lib.hid (show OwnW wr W1.heap.size _ (P2 m.f (t + 1) 0) from by rw [← P3_next htk]; exact HO.out)
         go_wp2
         go_roundw
         case rel => exact ⟨t + 1, by omega, by go_num, HOE.out, HB.out⟩
         case measure => simp [intOf]; omega
    ·obtain rfl : T = t := by omega
     have hcd : ¬ (T : Int) < (T : Int) := by omega
     have HO4 := Lib.hid (show OwnW wr W1.heap.size _ (P4 m.f 0) from by rw [← P4_0 (t := T) (by omega)]; exact HO.out)
     clear HO q1 q2 q3
     go_wp2
     clear q0
     have HO := HO4
     clear HO4
     go_loopw [3, 13] (fun v3 v13 wi => ∃ p : Nat, p ≤ m.f.places.length ∧ v13 = .int .i64 p ∧ OwnW wi W1.heap.size v3 (P4 m.f p) ∧ Below W1.heap.size W1 wi) (fun _ v13 _ => m.f.places.length - (intOf v13).toNat)
     case atStart => exact ⟨0, by omega, rfl, HO.out, HB.out⟩
     case round =>
      clear HB
      obtain ⟨p, hp, rfl, hown, hb⟩ := hrel
      have HO := Lib.hid hown
      have HB := Lib.hid hb
      clear hown hb
      obtain ⟨q0, q1, q2, q3⟩ := fe_cells (HQ0.out.later HB.out)
      simp only [Nat.zero_add] at q0 q1 q2 q3
      by_cases hlp : p < m.f.places.length
      ·have hcd : (p : Int) < (m.f.places.length : Int) := by omega
       obtain ⟨x, hx⟩ := some_at hlp
       obtain ⟨pb, po, hpa, hat⟩ := (HM.out.later (bthen HB0.out HB.out)).pl.at hx
       obtain ⟨y0, y1⟩ := pl_cells hat
       have hpi : ¬ (p : Int) < 0 := by omega
       have hbp : 0 ≤ (p : Int) ∧ (p : Int) ≤ 8 := ⟨by omega, by omega⟩
       have hpi2 : (p : Int) < (m.f.places.length : Int) := by omega
       have HMV := Lib.hid (show m.v = .agg #[.int .i64 (T : Int), .int .i64 m.f.yields, .slice (some ⟨pb, po, none⟩) m.f.places.length m.pc, .slice m.ga m.f.gates.length m.gc] from by unfold Fm.v; rw [hT, hpa])
       rw [hpa] at q2
       clear hat y1 hpa
       have hpl := pre_small HC.out (P4_pre m.f p)
       go_upto_region 32 with (fail)
       refine wp_region_maker 12 wr (MadeW wr (wyOf (0) (nodeN m.f p 0) (1000) wBegin x.name (p) (-1))) (by kernel_rfl) (by kernel_rfl) (by kernel_rfl) (by rfl) (by rfl) (Below.refl _ _) (fun u W h => madeW_below h) (fun u W W' h hb => madeW_later h hb) (e := ?ee4) ?hq ?hmk ?ht
       case hq =>
        intro W5 hB5
        have k0 := later_cell (later_of hB5 q0)
        have k1 := later_cell (later_of hB5 q1)
        have k2 := later_cell (later_of hB5 q2)
        have k3 := later_cell (later_of hB5 q3)
        have k4 := later_cell (later_of hB5 y0)
        have HA0 := Lib.hid (fun (x1 : Later W5) => HMV.out ▸ c_rArriving m (p : Int) 0 x1.1 hbp hb00 hP8)
        have HA1 := Lib.hid (fun (x1 : Later W5) => c_rWay2 (0) (nodeN m.f p 0) (1000) (p) (-1) ⟨#[98, 101, 103, 105, 110]⟩ x.name x1.1)
        simp only [List.take_succ_cons, List.take_zero]
        repeat (go_big_quiet_step (first | (go_at_call 188; with_reducible exact in_region (HA0.out _)) | (go_at_call 187; with_reducible exact in_region (HA1.out _))))
        refine wpQuiet_nil ?_
        rfl
       case hmk =>
        intro W5 hB5
        exact ⟨_, _, by go_simp; rfl, madeW_made (0) (nodeN m.f p 0) (1000) (p) (-1) _ x.name hB5⟩
       case ht =>
        rintro u W5 ⟨b5, rfl, hnews, hB5⟩
        simp only [List.drop_succ_cons, List.drop_zero]
        have HNW := Lib.hid hnews
        have HO5 := Lib.hid (own_below HO.out hB5)
        have HB5 := Lib.hid (bthen HB.out hB5)
        clear hnews hB5 q0 q1 q2 q3 y0
        go_wp2_with (at_builtin; refine stuckHere ?_)
        refine unHid ?_
        refine wpList_append_own_at _ rfl _ _ 152 rfl W1.heap.size 155 i0 _ 10 96 Tryz.underlying152 hi0 hz0 hz1 hz2 rfl (by decide) _ _ _ rfl (HO5.out) ⟨_, 0, none⟩ 1 1 (wyC (wyOf (0) (nodeN m.f p 0) (1000) wBegin x.name (p) (-1))) rfl rfl (HNW.out) (wyC_one1 _) (by unfold maxLen; first | omega | (simp only [List.length_append, List.length_cons, List.length_nil]; omega)) (by first | omega | (simp only [List.length_append, List.length_cons, List.length_nil]; omega)) (by have hzz := HB5.out.size; first | exact hzz | (simp; omega)) ?_
        intro v1 w1 hown hgrow _ _
        have HO1 := Lib.hid (ownW_snoc hown)
        have HB1 := Lib.hid ((show Below W1.heap.size W1 _ from by have hb0 := HB5.out; have hbz := hb0.size; go_grown).trans ((kept_of_grown hgrow).below (by have hzz := HB5.out.size; first | exact hzz | (simp; omega)) (fun j hj => (HO5.out.lt j hj).1)))
        clear hown hgrow
        have HS := Lib.hid (P4_step hx)
        clear hx
        go_wp2
        go_roundw
        case rel => exact ⟨p + 1, by omega, by go_num, by rw [HS.out]; exact HO1.out, HB1.out⟩
        case measure => simp [intOf]; omega
      ·obtain rfl : p = m.f.places.length := by omega
       have hcd : ¬ (m.f.places.length : Int) < (m.f.places.length : Int) := by omega
       have HO5 := Lib.hid (show OwnW wr W1.heap.size _ (P5 m.f 0) from by rw [← P5_0]; exact HO.out)
       clear HO q0 q1
       go_wp2
       clear q2 q3
       go_loopw [3, 14] (fun v3 v14 wi => ∃ p : Nat, p ≤ m.f.places.length ∧ v14 = .int .i64 p ∧ OwnW wi W1.heap.size v3 (P5 m.f p) ∧ Below W1.heap.size W1 wi) (fun _ v14 _ => m.f.places.length - (intOf v14).toNat)
       case atStart => exact ⟨0, by omega, rfl, HO5.out, HB.out⟩
       case round =>
        clear HB
        obtain ⟨p, hp, rfl, hown, hb⟩ := hrel
        have HO := Lib.hid hown
        have HB := Lib.hid hb
        clear hown hb
        obtain ⟨q0, q1, q2, q3⟩ := fe_cells (HQ0.out.later HB.out)
        simp only [Nat.zero_add] at q0 q1 q2 q3
        by_cases hlp : p < m.f.places.length
        ·have hcd : (p : Int) < (m.f.places.length : Int) := by omega
         obtain ⟨x, hx⟩ := some_at hlp
         obtain ⟨pb, po, hpa, hat⟩ := (HM.out.later (bthen HB0.out HB.out)).pl.at hx
         obtain ⟨y0, y1⟩ := pl_cells hat
         have hpi : ¬ (p : Int) < 0 := by omega
         have hbp : 0 ≤ (p : Int) ∧ (p : Int) ≤ 8 := ⟨by omega, by omega⟩
         have hpi2 : (p : Int) < (m.f.places.length : Int) := by omega
         have HMV := Lib.hid (show m.v = .agg #[.int .i64 (T : Int), .int .i64 m.f.yields, .slice (some ⟨pb, po, none⟩) m.f.places.length m.pc, .slice m.ga m.f.gates.length m.gc] from by unfold Fm.v; rw [hT, hpa])
         rw [hpa] at q2
         clear hat y1 hpa
         have hpl := pre_small HC.out (P5_pre m.f p)
         go_upto_region 36 with (fail)
         refine wp_region_maker 14 wr (MadeW wr (wyOf (nodeN m.f p T + 1) (0) (1000) wEnd x.name (p) (-1))) (by kernel_rfl) (by kernel_rfl) (by kernel_rfl) (by rfl) (by rfl) (Below.refl _ _) (fun u W h => madeW_below h) (fun u W W' h hb => madeW_later h hb) (e := ?ee5) ?hq ?hmk ?ht
         case hq =>
          intro W5 hB5
          have k0 := later_cell (later_of hB5 q0)
          have k1 := later_cell (later_of hB5 q1)
          have k2 := later_cell (later_of hB5 q2)
          have k3 := later_cell (later_of hB5 q3)
          have k4 := later_cell (later_of hB5 y0)
          have HA0 := Lib.hid (fun (x1 : Later W5) => HMV.out ▸ c_rLeaving m (p : Int) (T : Int) x1.1 hbp hbT hP8)
          have HA1 := Lib.hid (fun (x1 : Later W5) => c_rWay2 (nodeN m.f p T + 1) (0) (1000) (p) (-1) ⟨#[101, 110, 100]⟩ x.name x1.1)
          simp only [List.take_succ_cons, List.take_zero]
          repeat (go_big_quiet_step (first | (go_at_call 189; with_reducible exact in_region (HA0.out _)) | (go_at_call 187; with_reducible exact in_region (HA1.out _))))
          refine wpQuiet_nil ?_
          rfl
         case hmk =>
          intro W5 hB5
          exact ⟨_, _, by go_simp; rfl, madeW_made (nodeN m.f p T + 1) (0) (1000) (p) (-1) _ x.name hB5⟩
         case ht =>
          rintro u W5 ⟨b5, rfl, hnews, hB5⟩
          simp only [List.drop_succ_cons, List.drop_zero]
          have HNW := Lib.hid hnews
          have HO5 := Lib.hid (own_below HO.out hB5)
          have HB5 := Lib.hid (bthen HB.out hB5)
          clear hnews hB5 q0 q1 q2 q3 y0
          go_wp2_with (at_builtin; refine stuckHere ?_)
          refine unHid ?_
          refine wpList_append_own_at _ rfl _ _ 152 rfl W1.heap.size 155 i0 _ 10 96 Tryz.underlying152 hi0 hz0 hz1 hz2 rfl (by decide) _ _ _ rfl (HO5.out) ⟨_, 0, none⟩ 1 1 (wyC (wyOf (nodeN m.f p T + 1) (0) (1000) wEnd x.name (p) (-1))) rfl rfl (HNW.out) (wyC_one1 _) (by unfold maxLen; first | omega | (simp only [List.length_append, List.length_cons, List.length_nil]; omega)) (by first | omega | (simp only [List.length_append, List.length_cons, List.length_nil]; omega)) (by have hzz := HB5.out.size; first | exact hzz | (simp; omega)) ?_
          intro v1 w1 hown hgrow _ _
          have HO1 := Lib.hid (ownW_snoc hown)
          have HB1 := Lib.hid ((show Below W1.heap.size W1 _ from by have hb0 := HB5.out; have hbz := hb0.size; go_grown).trans ((kept_of_grown hgrow).below (by have hzz := HB5.out.size; first | exact hzz | (simp; omega)) (fun j hj => (HO5.out.lt j hj).1)))
          clear hown hgrow
          have hps := P5_step hx
          rw [hT] at hps
          have HS := Lib.hid (hps)
          clear hx hps
          go_wp2
          go_roundw
          case rel => exact ⟨p + 1, by omega, by go_num, by rw [HS.out]; exact HO1.out, HB1.out⟩
          case measure => simp [intOf]; omega
        ·obtain rfl : p = m.f.places.length := by omega
         have hcd : ¬ (m.f.places.length : Int) < (m.f.places.length : Int) := by omega
         clear q0 q1
         go_wp2
         go_ret
         exact ⟨_, rfl, by have := HO.out; rw [P5_all] at this; exact ownsRow_base this hzW, bthen HB0.out HB.out⟩
end Go.Proofs.YtlppdgaogdpajaaGreatDoor
