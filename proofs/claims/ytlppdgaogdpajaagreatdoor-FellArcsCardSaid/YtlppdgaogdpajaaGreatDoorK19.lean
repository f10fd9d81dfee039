/- This text is a part of the proof: NameArc. -/
import Derived.Test.YtlppdgaogdpajaaGreatDoorK17
import Derived.Test.YtlppdgaogdpajaaGreatDoorK18
import Derived.Lib.ItoaLen
set_option maxRecDepth 100000
set_option maxHeartbeats 8000000
namespace Go.Proofs.YtlppdgaogdpajaaGreatDoor
open Go.RowKit Go.Shelf
attribute [local go_sem] Oper.semAt_some
def nameW (y : Wy) : ByteArray := joinS (if 0 ≤ y.tick then [y.kind, y.name, itoaS y.tick] else [y.kind, y.name])
theorem str_info2 : (Tryz.prog.info? 9).map (fun i => (i.zero, i.size, i.bytes)) = some (some (.string ByteArray.empty), 1, 16) := by kernel_rfl
theorem wpListIn_append_grows {F : Fence} {nF : Nat} {P : Program} {w : World} {ops : Array Oper} {rest : List Oper} {o : Oper} {a : Act} {Q : Exit → Act → World → Prop}
  (hg : o.guard = none) (s x : Operand) (t : TypeId) (hop : o.op = Op.call { callee := Callee.builtin Builtin.append, args := #[s, x], argTypes := #[t, t] })
  (e : TypeId) (i : TypeInfo) (z : Value) (size bytes : Nat) (h1 : P.underlying t = some (.slice e)) (h2 : P.info? e = some i) (h3 : i.zero = some z) (h4 : i.size = size) (h5 : i.bytes = bytes) (h6 : z.cells.size = size) (h7 : 0 < size)
  (b : Addr) (n cap : Nat) (olds : List Value) (hs : a.eval s = .slice (some b) n cap) (hlo : olds.length = n * size) (holds : ∀ j u, olds[j]? = some u → w.cell? (b.add j) = some u)
  (ad : Addr) (m c : Nat) (news : List Value) (hx : a.eval x = .slice (some ad) m c) (hn : news.length = m * size) (hc : ∀ j u, news[j]? = some u → w.cell? (ad.add j) = some u)
  (hfull : cap < n + m) (b1 : n + m ≤ maxLen) (b2 : (n + m) * bytes ≤ 140737488355328)
  (hK : ∀ v' w', w'.ownsRow w.heap.size e size v' (n + m) (olds ++ news) → w.grownBy w' none → wpListIn F nF P ops Q rest (a.put o.dst v') w') :
  wpListIn F nF P ops Q (o :: rest) a w := by
 refine wpListIn_plain hg fun K hK' => ?_
 obtain ⟨v', w', hrun, r1, r2⟩ := run_append_arg_grows (P := P) w t o.type e i z size bytes h1 h2 h3 h4 h5 h6 h7 b n cap olds hlo holds ad m c news hn hc hfull b1 b2
 unfold Oper.wpIn
 refine ⟨by simp [Oper.about, hop, resolve, Target.leads, Sem.run_pure], ?_⟩
 rw [Oper.semAt_plain F _ _ (by rw [hop]; intro c hc'; cases hc')]
 simp [execOp, hop, resolve, invoke, builtin, hs, hx, hrun, Result.andThen]
 exact hK' _ _ (hK v' w' r1 r2)
structure NmI (w : World) (bi bs be : Nat) (arc : Int) (pre : List Wy) (O : Nat → Prop) (A : World) : Prop where
 kept : Kept (fun k => k = bi) w A
 i : A.cell? ⟨bi, 0, none⟩ = some (.int .i64 pre.length)
 fi : A.frozen? ⟨bi, 0, none⟩ = false
 no : ¬ (0 ≤ arc ∧ arc < pre.length)
 o1 : O bi
 o2 : O bs
 o3 : O be
 lt : ∀ k, O k → k < A.heap.size
theorem NmI.abide {w : World} {bi bs be : Nat} {arc : Int} {pre : List Wy} : Abide w.heap.size (NmI w bi bs be arc pre) := by
 intro O A C h hk
 have hn : ¬ (w.heap.size ≤ bi ∧ ¬ O bi) := fun e => e.2 h.o1
 exact ⟨h.kept.trans hk fun j hj hx => by omega, hk.cell hn h.i, (hk.frozen (cell_lt h.i) hn).trans h.fi, h.no, h.o1, h.o2, h.o3, fun k hx => Nat.lt_of_lt_of_le (h.lt k hx) hk.size⟩
structure NmX (w : World) (bi bs be : Nat) (arc : Int) (ys : List Wy) (A : World) : Prop where
 kept : Kept (fun k => k = bs ∨ k = be ∨ k = bi) w A
 found : ∃ y, 0 ≤ arc ∧ ys[arc.toNat]? = some y ∧ A.cell? ⟨bs, 0, none⟩ = some (.string (nameW y))
 e : A.cell? ⟨be, 0, none⟩ = some (.int .i64 0)
theorem NmX.abide {w : World} {bi bs be : Nat} {arc : Int} {ys : List Wy} (h1 : bs < w.heap.size) (h2 : be < w.heap.size) : Abide w.heap.size (fun _ => NmX w bi bs be arc ys) := by
 intro O A C h hk
 obtain ⟨y, e1, e2, e3⟩ := h.found
 exact ⟨h.kept.trans hk fun j hj hx => by omega, ⟨y, e1, e2, hk.cell (by omega) e3⟩, hk.cell (by omega) h.e⟩
theorem ways_words {f : Fe} (h : Right f) {y : Wy} (hy : y ∈ waysL f) : y.kind.size ≤ 25 ∧ y.name.size ≤ 25 ∧ -1 ≤ y.tick ∧ y.tick ≤ 100 := by
 have hp : ∀ x ∈ f.places, x.name.size ≤ 25 := fun x hx => by
  have h1 := h.pn
  rw [List.any_eq_false] at h1
  have h2 := h1 x.name (List.mem_map_of_mem hx)
  have := nameB_size (by simpa using h2 : nameB x.name = true)
  omega
 have hg : ∀ x ∈ f.gates, x.name.size ≤ 25 := fun x hx => by
  have h1 := h.gn
  rw [List.any_eq_false] at h1
  have h2 := h1 x.name (List.mem_map_of_mem hx)
  have := nameB_size (by simpa using h2 : nameB x.name = true)
  omega
 have hT := h.t24
 have mem : ∀ {α : Type} {l : List α} {i : Int} {x : α}, (i, x) ∈ numbered l → x ∈ l := fun {α} {l} {i} {x} hm => by
  unfold numbered at hm
  obtain ⟨⟨a, k⟩, hk, e⟩ := List.mem_map.1 hm
  simp only [Prod.mk.injEq] at e
  obtain ⟨_, rfl⟩ := e
  have := List.mem_zipIdx hk
  simp at this
  exact this.2 ▸ List.getElem_mem _
 have hup : ∀ {n : Int} {t : Int}, t ∈ upTo n → 0 ≤ t ∧ t < n := fun {n} {t} ht => by
  unfold upTo at ht
  obtain ⟨k, hk, rfl⟩ := List.mem_map.1 ht
  have := List.mem_range.1 hk
  omega
 unfold waysL staysOf stepOf movesOf passesOf movesAt passesAt begins endsOf at hy
 simp only [List.mem_append, List.mem_flatMap, List.mem_map, List.mem_cons, List.not_mem_nil, or_false] at hy
 rcases hy with ⟨t, ht, ⟨p, x⟩, hx, rfl⟩ | ⟨t, ht, ⟨⟨p, x⟩, hx, rfl | rfl | rfl | rfl | rfl⟩ | ⟨⟨i, g⟩, hx, rfl | rfl⟩⟩ | ⟨⟨p, x⟩, hx, rfl⟩ | ⟨⟨p, x⟩, hx, rfl⟩
 all_goals
  first
   | have h1 := hup ht
   | skip
  first
   | have h2 := hp _ (mem hx)
   | have h2 := hg _ (mem hx)
  refine ⟨?_, h2, ?_, ?_⟩
  ·first | exact (by decide : wStay.size ≤ 25) | exact (by decide : wRest.size ≤ 25) | exact (by decide : wBorn.size ≤ 25) | exact (by decide : wDead.size ≤ 25) | exact (by decide : wBought.size ≤ 25) | exact (by decide : wSold.size ≤ 25) | exact (by decide : wPass.size ≤ 25) | exact (by decide : wBack.size ≤ 25) | exact (by decide : wBegin.size ≤ 25) | exact (by decide : wEnd.size ≤ 25)
  all_goals
   simp only [wyOf]
   omega
theorem itoa_size {n : Int} (h0 : -1 ≤ n) (h1 : n ≤ 100) : (itoaS n).size ≤ 21 := by
 have := Lib.itoa_length_le n (by omega) (by omega)
 unfold itoaS
 show (Lib.itoa n).toArray.size ≤ 21
 simpa using this
theorem own_cap {w : World} {base : Nat} {e : TypeId} {size n g c : Nat} {xs : List Value} (h : w.ownsRow base e size (.slice (some ⟨g, 0, none⟩) n c) n xs) : n ≤ c := by
 rcases h.2 with ⟨h', _⟩ | ⟨g', cap', cur, h', _, _, h1, _⟩
 ·simp at h'
 ·simp only [Value.slice.injEq, Option.some.injEq, Addr.mk.injEq, and_true, true_and] at h'
  omega
theorem joined_small {l : List ByteArray} (h1 : l.length ≤ 10) (h2 : ∀ x ∈ l, x.size ≤ 100) : (Lib.join (l.map (·.data.toList)) [32]).length ≤ 10000 := by
 cases l with
 | nil => simp [Lib.join_nil]
 | cons x r =>
  rw [List.map_cons, Lib.join_length]
  have h3 : ∀ (l : List ByteArray), (∀ x ∈ l, x.size ≤ 100) → Lib.lens (l.map (·.data.toList)) ≤ 100 * l.length := by
   intro l
   induction l with
   | nil => intro _; simp [Lib.lens]
   | cons y s ih =>
    intro hl
    have a := hl y (by simp)
    have b := ih (fun z hz => hl z (by simp [hz]))
    have e : y.size = y.data.toList.length := by simp
    simp only [Lib.lens, List.map_cons, List.sum_cons, List.length_cons] at b ⊢
    omega
  have h4 := h3 (x :: r) h2
  rw [List.map_cons] at h4
  simp at h1 h4 ⊢
  omega
theorem c_NameArc_no (m : Fm) (arc : Int) (w : World) (hm : m.In w) (h : checkE m.f ≠ 0) : Calls Tryz.prog 56 #[m.v, .int .i64 arc] w fun e w' => e = .returned (.tuple #[.string ⟨#[]⟩, .int .i64 (checkE m.f)]) ∧ Below w.heap.size w w' := by
 have hC := fun W (hb : Below w.heap.size w W) => c_CheckFell m W (hm.later hb)
 generalize checkE m.f = E at *
 have he : (E != 0) = true := bne_iff_ne.2 h
 have HC := Lib.hid hC
 clear hC h hm
 go_enter Tryz.func56, Tryz.ntmps56
 go_upto_region 1 with (fail)
 go_name_world W1 hW1
 have hzW1 : W1.heap.size = w.heap.size + 4 := by subst hW1; simp
 have hb0 : Below w.heap.size w W1 := by subst hW1; go_grown
 obtain ⟨q0, q1, q2, q3⟩ := (show QB m W1 w.heap.size from by subst hW1; and_intros <;> go_simp)
 have r0 : W1.cell? ⟨w.heap.size + 2, 0, none⟩ = some (.string ⟨#[]⟩) := by subst hW1; go_simp
 have fr0 : W1.frozen? ⟨w.heap.size + 2, 0, none⟩ = false := by subst hW1; go_simp
 have r1 : W1.cell? ⟨w.heap.size + 3, 0, none⟩ = some (.int .i64 0) := by subst hW1; go_simp
 have fr1 : W1.frozen? ⟨w.heap.size + 3, 0, none⟩ = false := by subst hW1; go_simp
 clear hW1 
 go_wp2_with fail
 refine (via (w0 := W1) (by go_grown) (HC.out _ hb0)).mono ?_
 rintro e W2 ⟨rfl, hc, hf, hz, hB⟩
 have zz := cy4 hc q0 q1 q2 q3
 clear q0 q1 q2 q3
 obtain ⟨q0, q1, q2, q3⟩ := zz
 replace fr0 := (hf _ _ (cell_lt r0)).trans fr0
 replace r0 := (hc _ _ (cell_lt r0)).trans r0
 replace fr1 := (hf _ _ (cell_lt r1)).trans fr1
 replace r1 := (hc _ _ (cell_lt r1)).trans r1
 replace hb0 : Below w.heap.size w W2 := bthen hb0 hB
 have hzW2 : W1.heap.size ≤ W2.heap.size := hz
 clear hc hf hB hz
 have zr := cell_lt r1
 go_wp2_with fail
 obtain ⟨C, hC⟩ : ∃ C, ((W2.setCell ⟨w.heap.size + 1 + 1, 0, none⟩ (.string ⟨#[]⟩)).setCell ⟨w.heap.size + 1 + 1 + 1, 0, none⟩ (.int .i64 E)) = C := ⟨_, rfl⟩
 have d0 : C.cell? ⟨w.heap.size + 1 + 1, 0, none⟩ = some (.string ⟨#[]⟩) := by subst hC; go_simp
 have d1 : C.cell? ⟨w.heap.size + 1 + 1 + 1, 0, none⟩ = some (.int .i64 E) := by subst hC; go_simp
 have hk : Kept (fun k => w.heap.size ≤ k) W2 C := by subst hC; exact Kept.setCell (p := ⟨w.heap.size + 1 + 1 + 1, 0, none⟩) (Kept.setCell (p := ⟨w.heap.size + 1 + 1, 0, none⟩) (Kept.refl (fun k => w.heap.size ≤ k) W2) (.inl (by show w.heap.size ≤ w.heap.size + 1 + 1; omega)) _) (.inl (by show w.heap.size ≤ w.heap.size + 1 + 1 + 1; omega)) _
 have hb : Below w.heap.size w C := ((Kept.of_below (O := fun k => w.heap.size ≤ k) hb0).trans hk (fun j _ e => e)).below (Nat.le_refl _) (fun _ h => h)
 rw [hC]
 refine bodyPost_ret (v := .tuple #[.string ⟨#[]⟩, .int .i64 E]) (by simp [results, Tryz.results56, go_sem, d0, d1]) rfl ⟨rfl, hb⟩
theorem c_NameArc_ok (m : Fm) (arc : Int) (w : World) (hm : m.In w) (hl : LibW w) (h : checkE m.f = 0) : Calls Tryz.prog 56 #[m.v, .int .i64 arc] w fun e w' => e = .returned (.tuple #[.string (nameArcV m.f arc).1, .int .i64 (nameArcV m.f arc).2]) ∧ Below w.heap.size w w' := by
  have hC := fun W (hb : Below w.heap.size w W) => c_CheckFell m W (hm.later hb)
  rw [h] at hC
  have hv : ∀ y, 0 ≤ arc → (waysL m.f)[arc.toNat]? = some y → nameArcV m.f arc = (nameW y, 0) := fun y h0 hy => by
    unfold nameArcV arcsL
    rw [if_neg (by omega), if_neg (by omega), List.getElem?_map, hy]
    rfl
  have hn : ¬ (0 ≤ arc ∧ arc < ((waysL m.f).length : Int)) → nameArcV m.f arc = (⟨#[]⟩, 1) := fun h1 => by
    unfold nameArcV arcsL
    rw [if_neg (by omega)]
    by_cases h2 : arc < 0
    · rw [if_pos h2]
    · rw [if_neg h2, List.getElem?_map, List.getElem?_eq_none (by omega)]
      rfl
  obtain ⟨i0, hi0, hz0, hz1, hz2⟩ := info_parts str_info2
  have HC := Lib.hid hC
  have HV := Lib.hid hv
  have HN := Lib.hid hn
  have HR := Lib.hid (right_of h)
  have HM := Lib.hid hm
  have HL := Lib.hid hl
  clear hC hm h hl hv hn
  refine callsIn_wide.1 (callsIn_of_wp_marks (n := 9) Tryz.func56 rfl trivial ?_ rfl)
  refine wpIn_wide.2 ?_
  simp only [Tryz.ntmps56, List.size_toArray, List.length_cons, List.length_nil, Nat.reduceAdd, Nat.reduceSub, Array.replicate_succ, Array.replicate_zero, List.push_toArray, List.append_toArray, List.nil_append, List.cons_append]
  go_upto_region 1 with (fail)
  go_name_world W1 hW1
  have hzW1 : W1.heap.size = w.heap.size + 4 := by subst hW1; simp
  have hb0 : Below w.heap.size w W1 := by subst hW1; go_grown
  obtain ⟨q0, q1, q2, q3⟩ := (show QB m W1 w.heap.size from by subst hW1; and_intros <;> go_simp)
  have a0 : W1.cell? ⟨w.heap.size + 1, 0, none⟩ = some (.int .i64 arc) := by subst hW1; go_simp
  have r0 : W1.cell? ⟨w.heap.size + 2, 0, none⟩ = some (.string ⟨#[]⟩) := by subst hW1; go_simp
  have fr0 : W1.frozen? ⟨w.heap.size + 2, 0, none⟩ = false := by subst hW1; go_simp
  have r1 : W1.cell? ⟨w.heap.size + 3, 0, none⟩ = some (.int .i64 0) := by subst hW1; go_simp
  have fr1 : W1.frozen? ⟨w.heap.size + 3, 0, none⟩ = false := by subst hW1; go_simp
  clear hW1 
  go_wp2_with fail
  refine (via (w0 := W1) (by go_grown) (HC.out _ hb0)).mono ?_
  rintro e W2 ⟨rfl, hc, hf, hz, hB⟩
  have zz := cy5 hc q0 q1 q2 q3 a0
  clear q0 q1 q2 q3 a0
  obtain ⟨q0, q1, q2, q3, a0⟩ := zz
  replace fr0 := (hf _ _ (cell_lt r0)).trans fr0
  replace r0 := (hc _ _ (cell_lt r0)).trans r0
  replace fr1 := (hf _ _ (cell_lt r1)).trans fr1
  replace r1 := (hc _ _ (cell_lt r1)).trans r1
  replace hb0 : Below w.heap.size w W2 := bthen hb0 hB
  have hzW2 : W1.heap.size ≤ W2.heap.size := hz
  clear hc hf hB hz
  go_upto_region 5 with (fail)
  go_name_world W3 hW3
  have hbz := hb0.size
  have hzW3 : W3.heap.size = W2.heap.size + 1 := by subst hW3; simp
  replace hb0 : Below w.heap.size w W3 := by subst hW3; go_grown
  clear hbz
  have hbk : Below W2.heap.size W2 W3 := by subst hW3; go_grown
  have zz := cl5 hbk q0 q1 q2 q3 a0
  clear q0 q1 q2 q3 a0
  obtain ⟨q0, q1, q2, q3, a0⟩ := zz
  replace fr0 := ((bcell hbk).2 _ _ (cell_lt r0)).trans fr0
  replace r0 := ((bcell hbk).1 _ _ (cell_lt r0)).trans r0
  replace fr1 := ((bcell hbk).2 _ _ (cell_lt r1)).trans fr1
  replace r1 := ((bcell hbk).1 _ _ (cell_lt r1)).trans r1
  clear hbk
  have i0c : W3.cell? ⟨W2.heap.size, 0, none⟩ = some (.int .i64 0) := by subst hW3; go_simp
  have fi0c : W3.frozen? ⟨W2.heap.size, 0, none⟩ = false := by subst hW3; go_simp
  clear hW3
  go_wp2_with fail
  refine (c_arcs m _).mono ?_
  rintro e W4 ⟨rfl, hW4⟩
  have hb4 : Below W3.heap.size W3 W4 := by subst hW4; go_grown
  have hz4 : W4.heap.size = W3.heap.size + 1 := by subst hW4; simp
  obtain ⟨t0, t1, t2, t3⟩ := (show QB m W4 W3.heap.size from by subst hW4; and_intros <;> go_simp)
  clear hW4
  go_wp2_with fail
  have hbW := bthen hb0 hb4
  have z1 := cell_lt r1
  have z2 := cell_lt i0c
  have iw := ((bcell hb4).1 _ _ (cell_lt i0c)).trans i0c
  have fw := ((bcell hb4).2 _ _ (cell_lt i0c)).trans fi0c
  have u0 := ((bcell hb4).1 _ _ (cell_lt r0)).trans r0
  have u1 := ((bcell hb4).1 _ _ (cell_lt r1)).trans r1
  have v0 := ((bcell hb4).2 _ _ (cell_lt r0)).trans fr0
  have v1 := ((bcell hb4).2 _ _ (cell_lt r1)).trans fr1
  have ua := ((bcell hb4).1 _ _ (cell_lt a0)).trans a0
  have zw := hbW.size
  clear hb0 hb4 r0 r1 fr0 fr1 i0c fi0c a0 q0 q1 q2 q3
  rw [hzW3] at hz4 t0 t1 t2 t3
  have hmb : ∀ (l : List Pl), Pls w m.pa l → l ≠ [] → ∀ b o, m.pa = some ⟨b, o, none⟩ → b < w.heap.size := fun l hl hne b o e => by
    obtain ⟨b', o', ha, hk⟩ := hl.2 hne
    rw [e] at ha
    cases ha
    obtain ⟨x, hx⟩ := some_at (List.length_pos_iff.2 hne)
    exact cell_lt (by simpa using (pl_cells (hk 0 x hx)).1)
  have hmg : ∀ (l : List Gt), Gts w m.ga l → l ≠ [] → ∀ b o, m.ga = some ⟨b, o, none⟩ → b < w.heap.size := fun l hl hne b o e => by
    obtain ⟨b', o', ha, hk⟩ := hl.2 hne
    rw [e] at ha
    cases ha
    obtain ⟨x, hx⟩ := some_at (List.length_pos_iff.2 hne)
    exact cell_lt (by simpa using (gt_cells (hk 0 x hx)).1)
  have hit := iter_arcs m HR.out (W2.heap.size + 1) (fun k => k < w.heap.size ∨ k = W2.heap.size + 1) W4 (by rintro k (hk | rfl) <;> omega) (.inr rfl)
    (fun hne b o e => .inl (hmb _ HM.out.pl hne b o e)) (fun hne b o e => .inl (hmg _ HM.out.gt hne b o e)) (cells_4 t0 t1 t2 t3) (HM.out.later hbW)
  have hfew := ways_few HR.out.small
  have hI0 : NmI W4 W2.heap.size (w.heap.size + 2) (w.heap.size + 3) arc [] (fun k => k = W2.heap.size ∨ k = w.heap.size + 2 ∨ k = w.heap.size + 3) W4 := ⟨Kept.refl _ _, iw, fw, by simp, .inl rfl, .inr (.inl rfl), .inr (.inr rfl), fun k hk => by rcases hk with rfl | rfl | rfl <;> omega⟩
  have HBW := Lib.hid hbW
  have zbs : w.heap.size + 2 < W2.heap.size := by omega
  have zbe : w.heap.size + 3 < W2.heap.size := by omega
  clear hmb hmg iw fw t0 t1 t2 t3 hbW
  refine wp_rangeE (E := EWy) (ys := waysL m.f) (mine := fun k => k < w.heap.size ∨ k = W2.heap.size + 1) rfl (enters_of Tryz.func192 (by kernel_rfl) rfl) (by rintro k (hk | rfl) <;> omega) hit (fun b x A v h => by obtain ⟨_, _, rfl, _⟩ := h; rfl) (fun k => k = W2.heap.size ∨ k = w.heap.size + 2 ∨ k = w.heap.size + 3) (by rintro k (hk | rfl) (h | h | h) <;> omega)
    (NmI W4 W2.heap.size (w.heap.size + 2) (w.heap.size + 3) arc) (fun c _ A => c = .ret ∧ NmX W4 W2.heap.size (w.heap.size + 2) (w.heap.size + 3) arc (waysL m.f) A) (fun _ => NmI.abide) (fun c O A C h hk => ⟨h.1, NmX.abide (by omega) (by omega) O A C h.2 hk⟩) (fun _ _ _ h => h.lt) hI0
    (fun pre x a' O A => ∃ Bx bw, NmI W4 W2.heap.size (w.heap.size + 2) (w.heap.size + 3) arc pre O A ∧ W4.heap.size + 2 ≤ Bx ∧ W4.heap.size + 2 ≤ bw ∧ bw < Bx ∧ O Bx ∧ A.heap[Bx]? = some (.cells #[.int .i64 x.arc.src, .int .i64 x.arc.dst, .int .i64 0, .int .i64 x.arc.high, .int .i64 0, .int .i64 0, .slice (some ⟨bw, 0, none⟩) 2 2, .int .i64 x.tick] 166 (0, 0)) ∧ WordsAt A bw x ∧ a' = { tmps := #[m.v, .int .i64 arc, .pointer (some ⟨w.heap.size, 0, none⟩), .pointer (some ⟨w.heap.size + 1, 0, none⟩), .pointer (some ⟨w.heap.size + 1 + 1, 0, none⟩), .pointer (some ⟨w.heap.size + 1 + 1 + 1, 0, none⟩), .int .i64 0, .pointer (some ⟨W2.heap.size, 0, none⟩), .pointer (some ⟨Bx, 0, none⟩), .agg #[.int .i64 m.f.ticks, .int .i64 m.f.yields, .slice m.pa m.f.places.length m.pc, .slice m.ga m.f.gates.length m.gc], .int .i64 0, .int .i64 0, .bool false, undef, .agg #[.int .i64 m.f.ticks, .int .i64 m.f.yields, .slice m.pa m.f.places.length m.pc, .slice m.ga m.f.gates.length m.gc], .agg #[.int .i64 m.f.ticks, .int .i64 m.f.yields, .slice m.pa m.f.places.length m.pc, .slice m.ga m.f.gates.length m.gc], .func (.func 192) #[] #[.pointer (some ⟨W2.heap.size + 1, 0, none⟩)], .agg #[.int .i64 x.arc.src, .int .i64 x.arc.dst, .int .i64 0, .int .i64 x.arc.high, .int .i64 0, .int .i64 0, .slice (some ⟨bw, 0, none⟩) 2 2, .int .i64 x.tick], undef, undef, undef, undef, undef, undef, undef, undef, undef, undef, undef, undef, undef, undef, undef, undef, undef, undef, undef], defers := [] }) ?hM ?assign ?body ?done ?stop
  case hM =>
    rintro pre x a' O A q o hq1 hq2 hOq ⟨Bx, bw, h, hBx, hbw, hbx, hoB, hx, hwd, rfl⟩
    exact ⟨Bx, bw, NmI.abide.put h hq1 hOq o, hBx, hbw, hbx, hoB, (World.putObj_heap_other (by omega)).trans hx, (World.putObj_heap_other (by omega)).trans hwd, rfl⟩
  case assign =>
    rintro lq pre x v O A K h hpre ⟨bw, hbw, rfl, hwd⟩ hK
    unfold Wy.vAt
    gi_wp2
    have h2 := NmI.abide.alloc h (.cells #[.int .i64 x.arc.src, .int .i64 x.arc.dst, .int .i64 0, .int .i64 x.arc.high, .int .i64 0, .int .i64 0, .slice (some ⟨bw, 0, none⟩) 2 2, .int .i64 x.tick] 166)
    have hlt := (Array.getElem?_eq_some_iff.1 hwd).1
    have h3 : NmI W4 W2.heap.size (w.heap.size + 2) (w.heap.size + 3) arc pre (fun k => O k ∨ k = A.heap.size) (A.alloc (.cells #[.int .i64 x.arc.src, .int .i64 x.arc.dst, .int .i64 0, .int .i64 x.arc.high, .int .i64 0, .int .i64 0, .slice (some ⟨bw, 0, none⟩) 2 2, .int .i64 x.tick] 166)) := ⟨h2.kept, h2.i, h2.fi, h2.no, .inl h2.o1, .inl h2.o2, .inl h2.o3, by
      rintro k (hk | rfl)
      · exact h2.lt k hk
      · simp⟩
    exact hK _ (fun k => O k ∨ k = A.heap.size) _ (by
      rintro k (hk | rfl)
      · exact .inl hk
      · exact .inr (Nat.le_refl _)) ((Kept.refl _ _).alloc _) ⟨A.heap.size, bw, h3, by omega, hbw, hlt, .inr rfl, World.alloc_heap_new A _, (Below.heap_alloc A _ _ hlt).trans hwd, rfl⟩
  case body =>
    rintro lq pre x a' O A hlq hOl ⟨Bx, bw, h, hBx, hbw, hbx, hoB, hx, hwd, rfl⟩ hpre
    have e0 := h.i
    have fe := h.fi
    have ea := h.kept.cell (show ¬ (w.heap.size + 1 = W2.heap.size) by omega) ua
    have es := h.kept.cell (show ¬ (w.heap.size + 2 = W2.heap.size) by omega) u0
    have ee := h.kept.cell (show ¬ (w.heap.size + 3 = W2.heap.size) by omega) u1
    have fs := (h.kept.frozen (cell_lt u0) (show ¬ (w.heap.size + 2 = W2.heap.size) by omega)).trans v0
    have fe2 := (h.kept.frozen (cell_lt u1) (show ¬ (w.heap.size + 3 = W2.heap.size) by omega)).trans v1
    have b6 : A.cell? ⟨Bx, 6, none⟩ = some (.slice (some ⟨bw, 0, none⟩) 2 2) := by simp [World.cell?, hx]
    have b7 : A.cell? ⟨Bx, 7, none⟩ = some (.int .i64 x.tick) := by simp [World.cell?, hx]
    have fb6 : A.frozen? ⟨Bx, 6, none⟩ = false := by simp [World.frozen?, hx]
    have hbA : Below w.heap.size w A := ((Kept.of_below (O := fun k => w.heap.size ≤ k) HBW.out).trans h.kept (fun j _ e => by omega)).below (Nat.le_refl _) (fun _ h => h)
    have hplen : pre.length + 1 ≤ 10000 := by
      have h9 := hpre.length_le
      simp at h9
      omega
    have hmem : x ∈ waysL m.f := hpre.subset (by simp)
    obtain ⟨hk25, hn25, ht0, ht1⟩ := ways_words HR.out hmem
    have hwlt := (Array.getElem?_eq_some_iff.1 hwd).1
    have zA := cell_lt b6
    have zi := cell_lt e0
    have zs := cell_lt ee
    have HNI := Lib.hid h
    have HWD := Lib.hid hwd
    have HBA := Lib.hid hbA
    have HPRE := Lib.hid hpre
    clear hit h hx hwd hbA hpre hmem u0 u1 v0 v1 ua
    by_cases he : (pre.length : Int) = arc
    · have hd : ((pre.length : Int) == arc) = true := beq_iff_eq.2 he
      have HEQ := Lib.hid he
      have hget : (waysL m.f)[arc.toNat]? = some x := by
        rw [← he, Int.toNat_natCast]
        obtain ⟨t, ht⟩ := HPRE.out
        rw [← ht, List.append_assoc, List.getElem?_append_right (Nat.le_refl _), Nat.sub_self]
        rfl
      have HGET := Lib.hid hget
      clear he hget
      by_cases ht : 0 ≤ x.tick
      · have hd2 : decide (x.tick ≥ 0) = true := decide_eq_true ht
        have HIT := Lib.hid (fun (W1 : World) (hW1 : Below A.heap.size A W1) (x1 : Later W1) => c_Itoa x.tick x1.1 (HL.out.later (bthen (bthen HBA.out hW1) x1.2)) ⟨by omega, by omega⟩)
        gi_wp2_with fail
        refine wpIn_region_maker 5 A (fun u W => ∃ b, u = .slice (some ⟨b, 0, none⟩) 1 1 ∧ A.heap.size ≤ b ∧ W.heap[b]? = some (.cells #[.string (itoaS x.tick)] 9 (0, 0)) ∧ Below A.heap.size A W) (by kernel_rfl) (by kernel_rfl) (by kernel_rfl) (by kernel_rfl) (by rfl) (by rfl) (Below.refl _ _) (fun u W ⟨_, _, _, _, h⟩ => h)
          (fun u W W' ⟨b, e1, e2, e3, e4⟩ hb => ⟨b, e1, e2, (hb.block b (Array.getElem?_eq_some_iff.1 e3).1).trans e3, bthen e4 hb⟩) (e := ?e9) ?hq ?hmk ?ht
        case hq =>
          intro W1 hW1
          have k6 := later_cell (((bcell hW1).1 _ _ (cell_lt b6)).trans b6)
          have k7 := later_cell (((bcell hW1).1 _ _ (cell_lt b7)).trans b7)
          simp only [List.take_succ_cons, List.take_zero]
          repeat (go_big_quiet_step (first | (go_at_call 95; with_reducible exact in_region (HIT.out _ hW1 _))))
          refine wpQuiet_nil ?_
          rfl
        case hmk =>
          intro W1 hW1
          exact ⟨_, _, by go_simp, ⟨W1.heap.size, rfl, hW1.size, World.alloc_heap_new W1 _, by have := hW1.size; go_grown⟩⟩
        case ht =>
          rintro u W5 ⟨b5, rfl, hb5, hbk5, hB5⟩
          simp only [List.drop_succ_cons, List.drop_zero]
          have hwd5 := (hB5.block bw hwlt).trans HWD.out
          have c6 := ((bcell hB5).1 _ _ (cell_lt b6)).trans b6
          have g6 := ((bcell hB5).2 _ _ (cell_lt b6)).trans fb6
          have es5 := ((bcell hB5).1 _ _ (cell_lt es)).trans es
          have ee5 := ((bcell hB5).1 _ _ (cell_lt ee)).trans ee
          have fs5 := ((bcell hB5).2 _ _ (cell_lt es)).trans fs
          have fe5 := ((bcell hB5).2 _ _ (cell_lt ee)).trans fe2
          have hz5 := hB5.size
          have hlt5 := (Array.getElem?_eq_some_iff.1 hbk5).1
          have hnews : ∀ (j : Nat) u, [Value.string (itoaS x.tick)][j]? = some u → W5.cell? ((⟨b5, 0, none⟩ : Addr).add j) = some u := fun j u hj => by
            have h0 : j = 0 := by have := (List.getElem?_eq_some_iff.1 hj).1; simpa using this
            subst h0
            cases hj
            simp [World.cell?, hbk5, Addr.add]
          have holds : ∀ (j : Nat) u, [Value.string x.kind, Value.string x.name][j]? = some u → W5.cell? ((⟨bw, 0, none⟩ : Addr).add j) = some u := fun j u hj => by
            have h0 : j = 0 ∨ j = 1 := by have := (List.getElem?_eq_some_iff.1 hj).1; simp at this; omega
            rcases h0 with rfl | rfl
            · cases hj
              simp [World.cell?, hwd5, Addr.add]
            · cases hj
              simp [World.cell?, hwd5, Addr.add]
          have HNW := Lib.hid hnews
          have HOL := Lib.hid holds
          have HB5 := Lib.hid hB5
          clear hwd5 hbk5 hB5 hnews holds es ee fs fe2 e0 fe ea b6 b7 fb6
          gi_wp2_with (gi_at_builtin; refine stuckHere ?_)
          refine unHid ?_
          refine wpListIn_append_grows rfl _ _ 93 rfl 9 i0 _ 1 16 Tryz.underlying93 hi0 hz0 hz1 hz2 rfl (by decide) ⟨bw, 0, none⟩ 2 2 [.string x.kind, .string x.name] rfl rfl HOL.out ⟨b5, 0, none⟩ 1 1 [.string (itoaS x.tick)] rfl rfl HNW.out (by omega) (by unfold maxLen; omega) (by omega) ?_
          intro v' w1 hown' hgrow
          obtain ⟨g', cap', rfl⟩ := own_slice hown'
          have hkg : Kept (fun _ => False) W5 w1 := (kept_of_grown hgrow).wider (fun _ _ h => by cases h)
          have c6n := hkg.cell (fun h => h) c6
          have g6n := (hkg.frozen (cell_lt c6) (fun h => h)).trans g6
          have es6 := hkg.cell (fun h => h) es5
          have ee6 := hkg.cell (fun h => h) ee5
          have fs6 := (hkg.frozen (cell_lt es5) (fun h => h)).trans fs5
          have fe6 := (hkg.frozen (cell_lt ee5) (fun h => h)).trans fe5
          have hz6 := hkg.size
          have hgl := hown'.lt g' rfl
          have hgB : ¬ g' = Bx := by omega
          have hcap3 : 3 ≤ cap' := own_cap hown'
          have HO3 := Lib.hid (show w1.ownsRow W5.heap.size 9 1 (.slice (some ⟨g', 0, none⟩) 3 cap') [x.kind, x.name, itoaS x.tick].length (cellsL strC [x.kind, x.name, itoaS x.tick]) from hown')
          have HKG := Lib.hid hkg
          clear hown' hgrow hkg c6 g6 es5 ee5 fs5 fe5
          gi_wp2_with fail
          have hst : Strs (w1.setCell ⟨Bx, 6, none⟩ (.slice (some ⟨g', 0, none⟩) 3 cap')) (some ⟨g', 0, none⟩) [x.kind, x.name, itoaS x.tick] := by
            obtain ⟨b, c, e, _, _, hs, _⟩ := Lst.own strC_len HO3.out
            cases e
            exact (hs (by simp)).kept (O := fun q => q = Bx) (Kept.setCell (p := ⟨Bx, 6, none⟩) (Kept.refl (fun q => q = Bx) w1) (.inl rfl) _) (fun b o e h => by cases e; exact hgB h)
          obtain ⟨w2, hw2⟩ : ∃ w2, (w1.setCell ⟨Bx, 6, none⟩ (.slice (some ⟨g', 0, none⟩) 3 cap')) = w2 := ⟨_, rfl⟩
          have hoth : ∀ q, q ≠ Bx → w2.heap[q]? = w1.heap[q]? := fun q hq => by rw [← hw2]; exact Below.heap_setCell w1 ⟨Bx, 6, none⟩ _ _ hq
          have es7 := (cell_same (hoth _ (by omega))).trans es6
          have ee7 := (cell_same (hoth _ (by omega))).trans ee6
          have fs7 := (frozen_same (hoth _ (by omega))).trans fs6
          have fe7 := (frozen_same (hoth _ (by omega))).trans fe6
          have hk7 : Kept (fun q => q = Bx) A w2 := by
            rw [← hw2]
            exact (((Kept.of_below (O := fun q => q = Bx) HB5.out).trans HKG.out (fun j _ e => e.elim)).setCell (p := ⟨Bx, 6, none⟩) (.inl rfl) _)
          rw [hw2] at hst ⊢
          have HK7 := Lib.hid hk7
          have hz7 := hk7.size
          have hit := itoa_size ht0 ht1
          have hJ := (c_Join ⟨#[32]⟩ [x.kind, x.name, itoaS x.tick] _ cap' w2 hst hcap3 (by
            have := joined_small (l := [x.kind, x.name, itoaS x.tick]) (by simp) (by
              intro z hz
              simp only [List.mem_cons, List.not_mem_nil, or_false] at hz
              rcases hz with rfl | rfl | rfl <;> omega)
            show (Lib.join _ [32]).length ≤ _
            omega)).mono fun e w' (h : e = _ ∧ Below w2.heap.size w2 w') => (show e = .returned (.string (nameW x)) ∧ Below w2.heap.size w2 w' from ⟨h.1.trans (by unfold nameW joinS; rw [if_pos ht]), h.2⟩)
          clear hw2 hk7 HB5 HKG HO3 c6n g6n es6 ee6 fs6 fe6 hst hoth
          refine ⟨trivial, (CallsIn.inRound lq (callsIn_wide.2 hJ)).mono ?_⟩
          rintro e W6 ⟨rfl, hB6⟩
          have es8 := ((bcell hB6).1 _ _ (cell_lt es7)).trans es7
          have ee8 := ((bcell hB6).1 _ _ (cell_lt ee7)).trans ee7
          have fs8 := ((bcell hB6).2 _ _ (cell_lt es7)).trans fs7
          have fe8 := ((bcell hB6).2 _ _ (cell_lt ee7)).trans fe7
          have HK8 := Lib.hid (HK7.out.trans (Kept.of_below (O := fun _ => False) hB6) (fun _ _ h => h.elim))
          have zq := cell_lt es8
          have zq2 := cell_lt ee8
          clear hB6 es7 ee7 fs7 fe7
          gi_wp2
          have h := HNI.out
          obtain ⟨C, hC⟩ : ∃ C, ((W6.setCell ⟨w.heap.size + 1 + 1, 0, none⟩ (.string (nameW x))).setCell ⟨w.heap.size + 1 + 1 + 1, 0, none⟩ (.int .i64 0)) = C := ⟨_, rfl⟩
          have d0 : C.cell? ⟨w.heap.size + 1 + 1, 0, none⟩ = some (.string (nameW x)) := by subst hC; go_simp
          have d1 : C.cell? ⟨w.heap.size + 1 + 1 + 1, 0, none⟩ = some (.int .i64 0) := by subst hC; go_simp
          have kall : Kept (fun q => q = Bx ∨ q = w.heap.size + 2 ∨ q = w.heap.size + 3) A C := by
            subst hC
            exact Kept.setCell (p := ⟨w.heap.size + 1 + 1 + 1, 0, none⟩) (Kept.setCell (p := ⟨w.heap.size + 1 + 1, 0, none⟩) (HK8.out.wider (O' := fun q => q = Bx ∨ q = w.heap.size + 2 ∨ q = w.heap.size + 3) (fun _ _ h => .inl h)) (.inl (.inr (.inl rfl))) _) (.inl (.inr (.inr rfl))) _
          rw [hC]
          clear hC
          refine ⟨O, fun j hj => .inl hj, kall.wider ?_, rfl, ⟨(h.kept.wider (O' := fun k => k = w.heap.size + 2 ∨ k = w.heap.size + 3 ∨ k = W2.heap.size) (fun _ _ e => .inr (.inr e))).trans kall ?_, ⟨x, by have := HEQ.out; omega, HGET.out, d0⟩, d1⟩⟩
          · rintro j _ (rfl | rfl | rfl)
            · exact hoB
            · exact h.o2
            · exact h.o3
          · rintro j hj (rfl | rfl | rfl)
            · omega
            · exact .inl rfl
            · exact .inr (.inl rfl)
      · have hd2 : decide (x.tick ≥ 0) = false := decide_eq_false ht
        have hwd0 := HWD.out
        have hst : Strs A (some ⟨bw, 0, none⟩) [x.kind, x.name] := ⟨by simp, fun _ => ⟨bw, 0, rfl, fun k z hz j u hu => by
          unfold WordsAt at hwd0
          have h0 : k = 0 ∨ k = 1 := by have := (List.getElem?_eq_some_iff.1 hz).1; simp at this; omega
          have h1 : j = 0 := by have := (List.getElem?_eq_some_iff.1 hu).1; simpa [strC] using this
          subst h1
          rcases h0 with rfl | rfl
          · cases hz
            cases hu
            simp [World.cell?, hwd0]
          · cases hz
            cases hu
            simp [World.cell?, hwd0]⟩⟩
        have hJ := (c_Join ⟨#[32]⟩ [x.kind, x.name] _ 2 A hst (by simp) (by
            have := joined_small (l := [x.kind, x.name]) (by simp) (by
              intro z hz
              simp only [List.mem_cons, List.not_mem_nil, or_false] at hz
              rcases hz with rfl | rfl <;> omega)
            show (Lib.join _ [32]).length ≤ _
            omega)).mono fun e w' (h : e = _ ∧ Below A.heap.size A w') => (show e = .returned (.string (nameW x)) ∧ Below A.heap.size A w' from ⟨h.1.trans (by unfold nameW joinS; rw [if_neg ht]), h.2⟩)
        have HJ := Lib.hid hJ
        clear hst hJ hwd0
        gi_wp2_with fail
        refine ⟨trivial, (CallsIn.inRound lq (callsIn_wide.2 HJ.out)).mono ?_⟩
        rintro e W6 ⟨rfl, hB6⟩
        have es8 := ((bcell hB6).1 _ _ (cell_lt es)).trans es
        have ee8 := ((bcell hB6).1 _ _ (cell_lt ee)).trans ee
        have fs8 := ((bcell hB6).2 _ _ (cell_lt es)).trans fs
        have fe8 := ((bcell hB6).2 _ _ (cell_lt ee)).trans fe2
        have HK8 := Lib.hid ((Kept.refl (fun q => q = Bx) A).trans (Kept.of_below (O := fun _ => False) hB6) (fun _ _ h => h.elim))
        have zq := cell_lt es8
        have zq2 := cell_lt ee8
        clear hB6 es ee fs fe2
        gi_wp2
        have h := HNI.out
        obtain ⟨C, hC⟩ : ∃ C, ((W6.setCell ⟨w.heap.size + 1 + 1, 0, none⟩ (.string (nameW x))).setCell ⟨w.heap.size + 1 + 1 + 1, 0, none⟩ (.int .i64 0)) = C := ⟨_, rfl⟩
        have d0 : C.cell? ⟨w.heap.size + 1 + 1, 0, none⟩ = some (.string (nameW x)) := by subst hC; go_simp
        have d1 : C.cell? ⟨w.heap.size + 1 + 1 + 1, 0, none⟩ = some (.int .i64 0) := by subst hC; go_simp
        have kall : Kept (fun q => q = Bx ∨ q = w.heap.size + 2 ∨ q = w.heap.size + 3) A C := by
          subst hC
          exact Kept.setCell (p := ⟨w.heap.size + 1 + 1 + 1, 0, none⟩) (Kept.setCell (p := ⟨w.heap.size + 1 + 1, 0, none⟩) (HK8.out.wider (O' := fun q => q = Bx ∨ q = w.heap.size + 2 ∨ q = w.heap.size + 3) (fun _ _ h => .inl h)) (.inl (.inr (.inl rfl))) _) (.inl (.inr (.inr rfl))) _
        rw [hC]
        clear hC
        refine ⟨O, fun j hj => .inl hj, kall.wider ?_, rfl, ⟨(h.kept.wider (O' := fun k => k = w.heap.size + 2 ∨ k = w.heap.size + 3 ∨ k = W2.heap.size) (fun _ _ e => .inr (.inr e))).trans kall ?_, ⟨x, by have := HEQ.out; omega, HGET.out, d0⟩, d1⟩⟩
        · rintro j _ (rfl | rfl | rfl)
          · exact hoB
          · exact h.o2
          · exact h.o3
        · rintro j hj (rfl | rfl | rfl)
          · omega
          · exact .inl rfl
          · exact .inr (.inl rfl)
    · have hd : ((pre.length : Int) == arc) = false := beq_eq_false_iff_ne.2 he
      have HNE := Lib.hid he
      clear he
      gi_wp2
      have h := HNI.out
      have e0' := h.i
      have fe' := h.fi
      have kc : Kept O A (A.setCell ⟨W2.heap.size, 0, none⟩ (.int .i64 ((pre.length : Int) + 1))) := Kept.setCell (p := ⟨W2.heap.size, 0, none⟩) (Kept.refl O A) (.inl h.o1) _
      have ki : Kept (fun k => k = W2.heap.size) A (A.setCell ⟨W2.heap.size, 0, none⟩ (.int .i64 ((pre.length : Int) + 1))) := Kept.setCell (p := ⟨W2.heap.size, 0, none⟩) (Kept.refl (fun k => k = W2.heap.size) A) (.inl rfl) _
      have hlen : ((pre ++ [x]).length : Int) = (pre.length : Int) + 1 := by simp
      refine ⟨O, fun j hj => .inl hj, kc, ⟨h.kept.trans ki (fun _ _ h => h), by rw [hlen]; go_simp, by go_simp, ?_, h.o1, h.o2, h.o3, fun j hj => Nat.lt_of_lt_of_le (h.lt j hj) kc.size⟩⟩
      rw [hlen]
      have hno := h.no
      have hne := HNE.out
      omega
  case done =>
    rintro D O A hD hOD h hK
    have e0 := h.kept.cell (show ¬ (w.heap.size + 2 = W2.heap.size) by omega) u0
    have e1 := h.kept.cell (show ¬ (w.heap.size + 3 = W2.heap.size) by omega) u1
    have f0 := (h.kept.frozen (cell_lt u0) (show ¬ (w.heap.size + 2 = W2.heap.size) by omega)).trans v0
    have f1 := (h.kept.frozen (cell_lt u1) (show ¬ (w.heap.size + 3 = W2.heap.size) by omega)).trans v1
    have HNO := Lib.hid (HN.out h.no)
    have HNI := Lib.hid h
    have HK := Lib.hid hK
    have zA := cell_lt e1
    clear hit h hK u0 u1 v0 v1 ua
    go_wp2
    obtain ⟨C, hC⟩ : ∃ C, ((A.setCell ⟨w.heap.size + 1 + 1, 0, none⟩ (.string ⟨#[]⟩)).setCell ⟨w.heap.size + 1 + 1 + 1, 0, none⟩ (.int .i64 1)) = C := ⟨_, rfl⟩
    have d0 : C.cell? ⟨w.heap.size + 1 + 1, 0, none⟩ = some (.string ⟨#[]⟩) := by subst hC; go_simp
    have d1 : C.cell? ⟨w.heap.size + 1 + 1 + 1, 0, none⟩ = some (.int .i64 1) := by subst hC; go_simp
    have hk2 : Kept (fun k => k = w.heap.size + 2 ∨ k = w.heap.size + 3) A C := by subst hC; exact Kept.setCell (p := ⟨w.heap.size + 1 + 1 + 1, 0, none⟩) (Kept.setCell (p := ⟨w.heap.size + 1 + 1, 0, none⟩) (Kept.refl (fun k => k = w.heap.size + 2 ∨ k = w.heap.size + 3) A) (.inl (.inl rfl)) _) (.inl (.inr rfl)) _
    rw [hC]
    clear hC
    refine end_collected (v := .tuple #[.string ⟨#[]⟩, .int .i64 1]) ((hk2.block D (Array.getElem?_eq_some_iff.1 HK.out).1 (by omega)).trans HK.out) ?_ ?_ _ (.inr rfl)
    · intro C2 hk3
      have q0 := hk3.cell (by omega) d0
      have q1 := hk3.cell (by omega) d1
      simp [results, Tryz.results56, go_sem, q0, q1]
    · intro C2 hk3
      refine ⟨by rw [HNO.out], ?_⟩
      have k1 : Kept (fun k => w.heap.size ≤ k) w A := ((Kept.of_below HBW.out).trans HNI.out.kept (fun j _ e => by omega))
      have k2 := (k1.trans hk2 (fun j _ e => by omega)).trans hk3 (fun j _ e => by omega)
      exact k2.below (Nat.le_refl _) (fun _ h => h)
  case stop =>
    rintro D c O A hD hOD ⟨rfl, h⟩ hK
    obtain ⟨y, y1, y2, y3⟩ := h.found
    have y4 := h.e
    have HY := Lib.hid (HV.out y y1 y2)
    have HNX := Lib.hid h
    have HK := Lib.hid hK
    clear hit h hK u0 u1 v0 v1 ua y1 y2
    go_wp2
    refine end_collected (v := .tuple #[.string (nameW y), .int .i64 0]) HK.out ?_ ?_ _ (.inr rfl)
    · intro C2 hk3
      have q0 := hk3.cell (by omega) y3
      have q1 := hk3.cell (by omega) y4
      simp [results, Tryz.results56, go_sem, q0, q1]
    · intro C2 hk3
      refine ⟨by rw [HY.out], ?_⟩
      have k1 : Kept (fun k => w.heap.size ≤ k) w A := ((Kept.of_below HBW.out).trans HNX.out.kept (fun j _ e => by omega))
      have k2 := k1.trans hk3 (fun j _ e => by omega)
      exact k2.below (Nat.le_refl _) (fun _ h => h)
theorem c_NameArc (m : Fm) (arc : Int) (w : World) (hm : m.In w) (hl : LibW w) : Calls Tryz.prog 56 #[m.v, .int .i64 arc] w fun e w' => e = .returned (.tuple #[.string (nameArcV m.f arc).1, .int .i64 (nameArcV m.f arc).2]) ∧ Below w.heap.size w w' := by
 by_cases h : checkE m.f = 0
 ·exact c_NameArc_ok m arc w hm hl h
 ·have h9 := c_NameArc_no m arc w hm h
  have e : nameArcV m.f arc = (⟨#[]⟩, checkE m.f) := by
   unfold nameArcV
   rw [if_pos h]
  rw [e]
  exact h9
end Go.Proofs.YtlppdgaogdpajaaGreatDoor
