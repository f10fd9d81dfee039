/- This text is a part of the proof: Nature, NetBase, Words. -/
import Derived.Test.YtlppdgaogdpajaaGreatDoorK16
import Derived.Maps.OwnIn
set_option maxRecDepth 100000
set_option maxHeartbeats 4000000
namespace Go.Proofs.YtlppdgaogdpajaaGreatDoor
open Go.RowKit Go.Shelf
attribute [local go_sem] Oper.semAt_some
theorem ar_info : (Tryz.prog.info? 56).map (fun i => (i.zero, i.size, i.bytes)) = some (some (.agg #[.int .i64 0, .int .i64 0, .int .i64 0, .int .i64 0, .int .i64 0, .int .i64 0]), 6, 48) := by kernel_rfl
abbrev OwnA (w' : World) (base : Nat) (v : Value) (l : List Ar) : Prop := w'.ownsRow base 56 6 v l.length (cellsL arC l)
theorem ownA_nil (w : World) (base : Nat) : OwnA w base (.slice none 0 0) [] := World.ownsRow_nil _ _ _ _
def GivesA (nt : Nt) (w : World) (e : Ending) (w' : World) : Prop := ∃ v, e = .returned (.agg #[.int .i64 nt.n, v]) ∧ OwnA w' w.heap.size v nt.arcs ∧ Below w.heap.size w w'
def Wy.ar (y : Wy) : Ar := ⟨y.arc.src, y.arc.dst, 0, y.arc.high, 0, 0⟩
structure NI (w0 w : World) (b : Nat) (N : Int) (pre : List Wy) (O : Nat → Prop) (A : World) : Prop where
 kept : Kept (fun k => k = b) w A
 n : A.cell? ⟨b, 0, none⟩ = some (.int .i64 N)
 f0 : A.frozen? ⟨b, 0, none⟩ = false
 f1 : A.frozen? ⟨b, 1, none⟩ = false
 row : ∃ v, A.cell? ⟨b, 1, none⟩ = some v ∧ OwnA A w0.heap.size v (pre.map Wy.ar) ∧ (∀ g, v.ownBlock = some g → O g ∧ w.heap.size ≤ g)
 o1 : O b
 lt : ∀ k, O k → k < A.heap.size
theorem NI.abide {w0 w : World} {b : Nat} {N : Int} {pre : List Wy} : Abide w.heap.size (NI w0 w b N pre) := by
 intro O A C h hk
 obtain ⟨v, h1, h2, h3⟩ := h.row
 have hn : ¬ (w.heap.size ≤ b ∧ ¬ O b) := fun e => e.2 h.o1
 exact ⟨h.kept.trans hk fun j hj hx => by omega, hk.cell hn h.n, (hk.frozen (cell_lt h.n) hn).trans h.f0, (hk.frozen (cell_lt h.n) hn).trans h.f1, ⟨v, hk.cell hn h1, ownsRow_kept h2 hk (fun g hg e => e.2 (h3 g hg).1), h3⟩, h.o1, fun k hx => Nat.lt_of_lt_of_le (h.lt k hx) hk.size⟩
theorem ways_ar {f : Fe} {y : Wy} (h : y ∈ waysL f) : y.wa.arc = y.ar := by
 have hw : ∃ s d hh k n p t, y = wyOf s d hh k n p t := by
  unfold waysL staysOf stepOf movesOf passesOf movesAt passesAt begins endsOf at h
  simp only [List.mem_append, List.mem_flatMap, List.mem_map, List.mem_cons, List.not_mem_nil, or_false] at h
  rcases h with ⟨t, _, ⟨p, x⟩, _, rfl⟩ | ⟨t, _, ⟨⟨p, x⟩, _, rfl | rfl | rfl | rfl | rfl⟩ | ⟨⟨i, g⟩, _, rfl | rfl⟩⟩ | ⟨⟨p, x⟩, _, rfl⟩ | ⟨⟨p, x⟩, _, rfl⟩
  all_goals exact ⟨_, _, _, _, _, _, _, rfl⟩
 obtain ⟨s, d, hh, k, n, p, t, rfl⟩ := hw
 rfl
theorem ways_ars (f : Fe) : (natureV f).arcs = (waysL f).map Wy.ar := by
 unfold natureV arcsL
 rw [List.map_map]
 exact List.map_congr_left fun y hy => ways_ar hy
theorem own_any {w : World} {base : Nat} {e : TypeId} {size n : Nat} {v : Value} {xs : List Value} (h : w.ownsRow base e size v n xs) : ∃ a cap, v = .slice a n cap := by
 rcases h.2 with ⟨rfl, rfl⟩ | ⟨g, cap, cur, rfl, _⟩
 ·exact ⟨none, 0, rfl⟩
 ·exact ⟨_, cap, rfl⟩
theorem own_slice {w : World} {base : Nat} {e : TypeId} {size n : Nat} {v : Value} {xs : List Value} (h : w.ownsRow base e size v (n + 1) xs) : ∃ g cap, v = .slice (some ⟨g, 0, none⟩) (n + 1) cap := by
 rcases h.2 with ⟨_, h0⟩ | ⟨g, cap, cur, rfl, _⟩
 ·omega
 ·exact ⟨g, cap, rfl⟩
theorem own_ne {w : World} {base : Nat} {e : TypeId} {size n D : Nat} {v : Value} {xs : List Value} {x : Option (List Deferred)} (h : w.ownsRow base e size v n xs) (hd : w.heap[D]? = some (.deferred x)) : ¬ v.ownBlock = some D := by
 intro hv
 rcases h.2 with ⟨rfl, _⟩ | ⟨g, cap, cur, rfl, _, hg, _⟩
 ·simp [Value.ownBlock] at hv
 ·simp [Value.ownBlock] at hv
  subst hv
  rw [hg] at hd
  cases hd
theorem flat_len {α β : Type} {g : α → List β} {c : Nat} : ∀ (L : List α), (∀ x, (g x).length = c) → (L.flatMap g).length = L.length * c
 | [], _ => by simp
 | x :: L, h => by rw [List.flatMap_cons, List.length_append, h, flat_len L h, List.length_cons, Nat.succ_mul, Nat.add_comm]
theorem stepOf_len (f : Fe) (t : Int) : (stepOf f t).length = 5 * f.places.length + 2 * f.gates.length := by
 unfold stepOf movesOf passesOf
 rw [List.length_append, flat_len (c := 5) _ (fun _ => rfl), flat_len (c := 2) _ (fun _ => rfl), num_len, num_len]
 omega
theorem ways_len (f : Fe) : (waysL f).length = (f.ticks + 1).toNat * f.places.length + (f.ticks.toNat * (5 * f.places.length + 2 * f.gates.length) + (f.places.length + f.places.length)) := by
 unfold waysL
 rw [List.length_append, List.length_append, List.length_append, flat_len _ (staysOf_len f), flat_len _ (stepOf_len f), upTo_len, upTo_len]
 simp [begins, endsOf, num_len]
theorem ways_few {f : Fe} (h : Small f) : (waysL f).length ≤ 10000 := by
 have h1 := h.p8
 have h2 := h.g12
 have h3 := h.t24
 rw [ways_len]
 have a : (f.ticks + 1).toNat * f.places.length ≤ 25 * 8 := Nat.mul_le_mul (by omega) h1
 have b : f.ticks.toNat * (5 * f.places.length + 2 * f.gates.length) ≤ 24 * 64 := Nat.mul_le_mul (by omega) (by omega)
 omega
theorem c_nature (m : Fm) (w : World) (hm : m.In w) (h : checkE m.f = 0) : Calls Tryz.prog 124 #[m.v] w (GivesA (natureV m.f) w) := by
 have hN := fun W (hb : Below w.heap.size w W) => c_Nodes_ok m W (hm.later hb) h
 obtain ⟨i0, hi0, hz0, hz1, hz2⟩ := info_parts ar_info
 have HN := Lib.hid hN
 have HR := Lib.hid (right_of h)
 have HM := Lib.hid hm
 clear hN hm h
 refine callsIn_wide.1 (callsIn_of_wp_marks (n := 9) Tryz.func124 rfl trivial ?_ rfl)
 refine wpIn_wide.2 ?_
 simp only [Tryz.ntmps124, List.size_toArray, List.length_cons, List.length_nil, Nat.reduceAdd, Nat.reduceSub, Array.replicate_succ, Array.replicate_zero, List.push_toArray, List.append_toArray, List.nil_append, List.cons_append]
 go_upto_region 1 with (fail)
 go_name_world W1 hW1
 have hzW1 : W1.heap.size = w.heap.size + 2 := by subst hW1; simp
 have hb0 : Below w.heap.size w W1 := by subst hW1; go_grown
 have r0 : W1.cell? ⟨w.heap.size + 1, 0, none⟩ = some (.int .i64 0) := by subst hW1; go_simp
 have fr0 : W1.frozen? ⟨w.heap.size + 1, 0, none⟩ = false := by subst hW1; go_simp
 have r1 : W1.cell? ⟨w.heap.size + 1, 1, none⟩ = some (.slice none 0 0) := by subst hW1; go_simp
 have fr1 : W1.frozen? ⟨w.heap.size + 1, 1, none⟩ = false := by subst hW1; go_simp
 obtain ⟨q0, q1, q2, q3⟩ := (show QB m W1 w.heap.size from by subst hW1; and_intros <;> go_simp)
 clear hW1 
 go_wp2_with fail
 refine (via (w0 := W1) (by go_grown) (HN.out _ hb0)).mono ?_
 rintro e W2 ⟨rfl, hc, hf, hz, hB⟩
 replace fr0 := (hf _ _ (cell_lt r0)).trans fr0
 replace r0 := (hc _ _ (cell_lt r0)).trans r0
 replace fr1 := (hf _ _ (cell_lt r1)).trans fr1
 have zz := cy5 hc r1 q0 q1 q2 q3
 clear r1 q0 q1 q2 q3
 obtain ⟨r1, q0, q1, q2, q3⟩ := zz
 replace hb0 : Below w.heap.size w W2 := bthen hb0 hB
 have hzW2 : W1.heap.size ≤ W2.heap.size := hz
 clear hc hf hB hz
 go_upto_region 2 with (fail)
 go_name_world W3 hW3
 have hbz := hb0.size
 have hzW3 : W3.heap.size = W2.heap.size + 1 := by subst hW3; simp
 replace hb0 : Below w.heap.size w W3 := by subst hW3; go_grown
 clear hbz
 have hbk : Below W2.heap.size W2 W3 := by subst hW3; go_grown
 replace fr0 := ((bcell hbk).2 _ _ (cell_lt r0)).trans fr0
 replace r0 := ((bcell hbk).1 _ _ (cell_lt r0)).trans r0
 replace fr1 := ((bcell hbk).2 _ _ (cell_lt r1)).trans fr1
 have zz := cl5 hbk r1 q0 q1 q2 q3
 clear r1 q0 q1 q2 q3
 obtain ⟨r1, q0, q1, q2, q3⟩ := zz
 clear hbk
 have n0 : W3.cell? ⟨W2.heap.size, 0, none⟩ = some (.int .i64 (nodeN m.f 0 (m.f.ticks + 1))) := by subst hW3; go_simp
 have fn0 : W3.frozen? ⟨W2.heap.size, 0, none⟩ = false := by subst hW3; go_simp
 have n1 : W3.cell? ⟨W2.heap.size, 1, none⟩ = some (.slice none 0 0) := by subst hW3; go_simp
 have fn1 : W3.frozen? ⟨W2.heap.size, 1, none⟩ = false := by subst hW3; go_simp
 clear hW3
 go_wp2_with fail
 refine (c_arcs m _).mono ?_
 rintro e W4 ⟨rfl, hW4⟩
 have hb4 : Below W3.heap.size W3 W4 := by subst hW4; go_grown
 have hz4 : W4.heap.size = W3.heap.size + 1 := by subst hW4; simp
 obtain ⟨t0, t1, t2, t3⟩ := (show QB m W4 W3.heap.size from by subst hW4; and_intros <;> go_simp)
 clear hW4
 go_wp2_with fail
 have hbW := bthen hb0 hb4
 have z1 := cell_lt r0
 have z2 := cell_lt n0
 have q0n := ((bcell hb4).1 _ _ (cell_lt n0)).trans n0
 have q1n := ((bcell hb4).1 _ _ (cell_lt n1)).trans n1
 have g0n := ((bcell hb4).2 _ _ (cell_lt n0)).trans fn0
 have g1n := ((bcell hb4).2 _ _ (cell_lt n1)).trans fn1
 have u0 := ((bcell hb4).1 _ _ (cell_lt r0)).trans r0
 have u1 := ((bcell hb4).1 _ _ (cell_lt r1)).trans r1
 have v0 := ((bcell hb4).2 _ _ (cell_lt r0)).trans fr0
 have v1 := ((bcell hb4).2 _ _ (cell_lt r1)).trans fr1
 have zw := hbW.size
 clear hb0 hb4 r0 r1 fr0 fr1 n0 n1 fn0 fn1 q0 q1 q2 q3
 rw [hzW3] at hz4 t0 t1 t2 t3
 have hmb : ∀ (n : Nat) (l : List Pl), Pls w m.pa l → l ≠ [] → ∀ b o, m.pa = some ⟨b, o, none⟩ → b < w.heap.size := fun n l hl hne b o e => by
  obtain ⟨b', o', ha, hk⟩ := hl.2 hne
  rw [e] at ha
  cases ha
  obtain ⟨x, hx⟩ := some_at (List.length_pos_iff.2 hne)
  exact cell_lt (by simpa using (pl_cells (hk 0 x hx)).1)
 have hmg : ∀ (l : List Gt), Gts w m.ga l → l ≠ [] → ∀ b o, m.ga = some ⟨b, o, none⟩ → b < w.heap.size := fun l hl hne b o e => by
  obtain ⟨b', o', ha, hk⟩ := hl.2 hne
  rw [e] at ha
  cases ha
  obtain ⟨x, hx⟩ := some_at (List.length_pos_iff.2 hne)
  exact cell_lt (by simpa using (gt_cells (hk 0 x hx)).1)
 have hit := iter_arcs m HR.out (W2.heap.size + 1) (fun k => k < w.heap.size ∨ k = W2.heap.size + 1) W4 (by rintro k (hk | rfl) <;> omega) (.inr rfl)
  (fun hne b o e => .inl (hmb 0 _ HM.out.pl hne b o e)) (fun hne b o e => .inl (hmg _ HM.out.gt hne b o e)) (cells_4 t0 t1 t2 t3) (HM.out.later hbW)
 have hfew := ways_few HR.out.small
 obtain ⟨NN, hNN⟩ : ∃ NN, nodeN m.f 0 (m.f.ticks + 1) = NN := ⟨_, rfl⟩
 rw [hNN] at q0n ⊢
 have hI0 : NI w W4 W2.heap.size NN [] (fun k => k = W2.heap.size) W4 := ⟨Kept.refl _ _, q0n, g0n, g1n, ⟨_, q1n, ownA_nil _ _, fun g hg => by cases hg⟩, rfl, fun k hk => by omega⟩
 have HBW := Lib.hid hbW
 have HNN := Lib.hid hNN
 clear hNN hmb hmg q0n q1n g0n g1n t0 t1 t2 t3 hbW
 refine wp_rangeE (E := EWy) (ys := waysL m.f) (mine := fun k => k < w.heap.size ∨ k = W2.heap.size + 1) rfl (enters_of Tryz.func192 (by kernel_rfl) rfl) (by rintro k (hk | rfl) <;> omega) hit (fun b x A v h => by obtain ⟨_, _, rfl, _⟩ := h; rfl) (fun k => k = W2.heap.size) (by rintro k (hk | rfl) h <;> omega)
  (NI w W4 W2.heap.size NN) (fun _ _ _ => False) (fun _ => NI.abide) (fun _ _ _ _ h _ => h) (fun _ _ _ h => h.lt) hI0
  (fun pre x a' O A => ∃ Bx bw, NI w W4 W2.heap.size NN pre O A ∧ W4.heap.size + 2 ≤ Bx ∧ CellsAt A Bx 0 (arC x.ar) ∧ a' = { tmps := #[m.v, .pointer (some ⟨w.heap.size, 0, none⟩), .pointer (some ⟨w.heap.size + 1, 0, none⟩), .pointer (some ⟨W2.heap.size, 0, none⟩), .pointer (some ⟨Bx, 0, none⟩), .agg #[.int .i64 m.f.ticks, .int .i64 m.f.yields, .slice m.pa m.f.places.length m.pc, .slice m.ga m.f.gates.length m.gc], .int .i64 (NN), .agg #[.int .i64 (NN), .slice none 0 0], .agg #[.int .i64 m.f.ticks, .int .i64 m.f.yields, .slice m.pa m.f.places.length m.pc, .slice m.ga m.f.gates.length m.gc], .agg #[.int .i64 m.f.ticks, .int .i64 m.f.yields, .slice m.pa m.f.places.length m.pc, .slice m.ga m.f.gates.length m.gc], .func (.func 192) #[] #[.pointer (some ⟨W2.heap.size + 1, 0, none⟩)], .agg #[.int .i64 x.arc.src, .int .i64 x.arc.dst, .int .i64 0, .int .i64 x.arc.high, .int .i64 0, .int .i64 0, .slice (some ⟨bw, 0, none⟩) 2 2, .int .i64 x.tick], undef, undef, undef, undef, undef, undef, undef, undef], defers := [] }) ?hM ?assign ?body ?done ?stop
 case hM =>
  rintro pre x a' O A q o hq1 hq2 hOq ⟨Bx, bw, h, hBx, hx, rfl⟩
  exact ⟨Bx, bw, NI.abide.put h hq1 hOq o, hBx, hx.kept (O := fun k => k = q) (Kept.put (l := q) (Kept.refl (fun k => k = q) A) (.inl rfl) o) (by omega), rfl⟩
 case assign =>
  rintro lq pre x v O A K h hpre ⟨bw, hbw, rfl, hwd⟩ hK
  unfold Wy.vAt
  gi_wp2
  have h2 := NI.abide.alloc h (.cells #[.int .i64 x.arc.src, .int .i64 x.arc.dst, .int .i64 0, .int .i64 x.arc.high, .int .i64 0, .int .i64 0, .slice (some ⟨bw, 0, none⟩) 2 2, .int .i64 x.tick] 166)
  refine hK _ O _ (fun k h => .inl h) ((Kept.refl _ _).alloc _) ⟨A.heap.size, bw, h2, by have := (Array.getElem?_eq_some_iff.1 hwd).1; omega, ?_, rfl⟩
  rintro j u hu
  have hj : j < 6 := by have := (List.getElem?_eq_some_iff.1 hu).1; simpa [arC] using this
  obtain rfl | rfl | rfl | rfl | rfl | rfl : j = 0 ∨ j = 1 ∨ j = 2 ∨ j = 3 ∨ j = 4 ∨ j = 5 := by omega
  all_goals
   unfold arC Wy.ar at hu
   cases hu
   go_simp
 case body =>
  rintro lq pre x a' O A hlq hOl ⟨Bx, bw, h, hBx, hx, rfl⟩ hpre
  obtain ⟨v, e1, hrow, hg⟩ := h.row
  obtain ⟨x0, x1, x2, x3, x4, x5⟩ := ar_cells hx
  have f1 := h.f1
  have zx := cell_lt x0
  have zb := cell_lt e1
  have hlen : pre.length + 1 ≤ 10000 := by
   have h9 := hpre.length_le
   simp at h9
   omega
  have hrl : (pre.map Wy.ar).length = pre.length := List.length_map _
  have HROW := Lib.hid hrow
  have HG := Lib.hid hg
  have HNI := Lib.hid h
  clear hit hx hrow hg h
  gi_wp2_with (gi_at_builtin; refine stuckHere ?_)
  refine unHid ?_
  refine wpListIn_append_own_at _ rfl _ _ 49 rfl w.heap.size 56 i0 _ 6 48 Tryz.underlying49 hi0 hz0 hz1 hz2 rfl (by decide) _ _ _ rfl (HROW.out.alloc _) ⟨A.heap.size, 0, none⟩ 1 1 (arC x.ar) rfl rfl (news_at _ #[_, _, _, _, _, _] _ _ (by simp)) (by simp [arC, Value.oneCell']) (by unfold maxLen; omega) (by omega) (by simp; omega) ?_
  intro v' w1 hown' hgrow _ hat
  rw [hrl] at hown'
  obtain ⟨g', cap', rfl⟩ := own_slice hown'
  have hkg := kept_of_grown hgrow
  have nb : ¬ v.ownBlock = some W2.heap.size := fun e => by have := (HG.out _ e).2; omega
  have ka : Kept (fun _ => False) A (A.alloc (.cells #[.int .i64 x.arc.src, .int .i64 x.arc.dst, .int .i64 0, .int .i64 x.arc.high, .int .i64 0, .int .i64 0] 56)) := (Kept.refl _ _).alloc _
  have q1 := hkg.cell nb (ka.cell (fun h => h) e1)
  have q0 := hkg.cell nb (ka.cell (fun h => h) HNI.out.n)
  have q1f := (hkg.frozen (cell_lt (ka.cell (fun h => h) e1)) nb).trans ((ka.frozen (cell_lt e1) (fun h => h)).trans f1)
  have q0f := (hkg.frozen (cell_lt (ka.cell (fun h => h) e1)) nb).trans ((ka.frozen (cell_lt e1) (fun h => h)).trans HNI.out.f0)
  have hg' := hown'.lt g' rfl
  have hall : Kept (fun k => v.ownBlock = some k) A w1 := (ka.wider (fun _ _ h => h.elim)).trans hkg (fun _ _ h => h)
  have HALL := Lib.hid hall
  have HO' := Lib.hid hown'
  have HAT := Lib.hid hat
  have hz1' := hall.size
  have hW4 : W4.heap.size ≤ A.heap.size := HNI.out.kept.size
  have hne : ¬ g' = W2.heap.size := fun e => by
   rcases HAT.out with h | h
   ·exact nb (h.symm.trans (by rw [e]; rfl))
   ·simp [Value.ownBlock] at h; omega
  clear hown' hgrow hat ka hkg hall e1 f1 x0 x1 x2 x3 x4 x5
  have zq := cell_lt q1
  gi_wp2
  have h := HNI.out
  have kc : Kept (fun k => k = W2.heap.size) w1 (w1.setCell ⟨W2.heap.size, 1, none⟩ (.slice (some ⟨g', 0, none⟩) (pre.length + 1) cap')) := Kept.setCell (p := ⟨W2.heap.size, 1, none⟩) (Kept.refl (fun k => k = W2.heap.size) w1) (.inl rfl) _
  have kall : Kept (fun k => k = W2.heap.size ∨ v.ownBlock = some k) A (w1.setCell ⟨W2.heap.size, 1, none⟩ (.slice (some ⟨g', 0, none⟩) (pre.length + 1) cap')) := (HALL.out.wider (fun _ _ h => .inr h)).trans kc (fun _ _ h => .inl h)
  refine ⟨fun j => O j ∨ j = g', ?_, kall.wider ?_, ⟨?_, by go_simp, by go_simp, by go_simp, ⟨.slice (some ⟨g', 0, none⟩) (pre.length + 1) cap', by go_simp, ?_, ?_⟩, .inl h.o1, ?_⟩⟩
  ·rintro j (hj | rfl)
   ·exact .inl hj
   ·rcases HAT.out with e | e
    ·exact .inl (HG.out _ (e ▸ rfl)).1
    ·simp [Value.ownBlock] at e
     right
     omega
  ·rintro j _ (rfl | hv)
   ·exact h.o1
   ·exact (HG.out j hv).1
  ·exact (h.kept.trans kall fun j hj hx => by
    rcases hx with rfl | hv
    ·rfl
    ·have := (HG.out j hv).2; omega)
  ·have h9 := ownsRow_kept HO'.out kc (fun g hg e => by simp [Value.ownBlock] at hg; omega)
   unfold OwnA
   rw [List.map_append, List.map_cons, List.map_nil, List.length_append, cellsL_snoc, hrl]
   exact h9
  ·intro g hg
   simp [Value.ownBlock] at hg
   subst hg
   refine ⟨.inr rfl, ?_⟩
   rcases HAT.out with e | e
   ·exact (HG.out _ (e ▸ rfl)).2
   ·simp [Value.ownBlock] at e
    omega
  ·rintro j (hj | rfl)
   ·exact Nat.lt_of_lt_of_le (h.lt j hj) kall.size
   ·exact Nat.lt_of_lt_of_le hg'.2 kc.size
 case done =>
  rintro D O A hD hOD h hK
  obtain ⟨v, e1, hrow, hg⟩ := h.row
  obtain ⟨sa, sc, rfl⟩ := own_any hrow
  have e0 := h.n
  have hn : ¬ (w.heap.size + 1 = W2.heap.size) := by omega
  have y0 := h.kept.cell hn u0
  have y1 := h.kept.cell hn u1
  have fy0 := (h.kept.frozen (cell_lt u0) hn).trans v0
  have fy1 := (h.kept.frozen (cell_lt u0) hn).trans v1
  have HNI := Lib.hid h
  have HROW := Lib.hid hrow
  have HG := Lib.hid hg
  have HK := Lib.hid hK
  clear hit h hrow hg hK u0 u1 v0 v1
  have zy := cell_lt y0
  have ze := cell_lt e0
  go_wp2
  obtain ⟨C, hC⟩ : ∃ C, ((A.setCell ⟨w.heap.size + 1, 0, none⟩ (.int .i64 NN)).setCell ⟨w.heap.size + 1, 1, none⟩ (.slice sa ((waysL m.f).map Wy.ar).length sc)) = C := ⟨_, rfl⟩
  have hk2 : Kept (fun k => k = w.heap.size + 1) A C := by subst hC; exact Kept.setCell (p := ⟨w.heap.size + 1, 1, none⟩) (Kept.setCell (p := ⟨w.heap.size + 1, 0, none⟩) (Kept.refl (fun k => k = w.heap.size + 1) A) (.inl rfl) _) (.inl rfl) _
  have d0 : C.cell? ⟨w.heap.size + 1, 0, none⟩ = some (.int .i64 NN) := by subst hC; go_simp
  have d1 : C.cell? ⟨w.heap.size + 1, 1, none⟩ = some (.slice sa ((waysL m.f).map Wy.ar).length sc) := by subst hC; go_simp
  have hml : ((waysL m.f).map Wy.ar).length = (waysL m.f).length := List.length_map _
  rw [hml] at hC
  rw [hC]
  clear hC
  have hD2 : ¬ w.heap.size + 1 = D := by omega
  refine end_collected (v := .agg #[.int .i64 NN, .slice sa ((waysL m.f).map Wy.ar).length sc]) ((hk2.block D (Array.getElem?_eq_some_iff.1 HK.out).1 (fun e => hD2 e.symm)).trans HK.out) ?_ ?_ _ (.inr rfl)
  ·intro C2 hk3
   have q0 := hk3.cell hD2 d0
   have q1 := hk3.cell hD2 d1
   simp [results, Tryz.results124, go_sem, q0, q1]
  ·intro C2 hk3
   refine ⟨_, by rw [show (natureV m.f).n = NN from HNN.out], ?_, ?_⟩
   ·rw [ways_ars]
    refine ownsRow_kept (ownsRow_kept HROW.out hk2 (fun g hg e => by have := (HG.out g hg).2; omega)) hk3 (fun g hg e => ?_)
    subst e
    exact own_ne HROW.out HK.out hg
   ·have k1 : Kept (fun k => w.heap.size ≤ k) w A := ((Kept.of_below HBW.out).trans HNI.out.kept (fun j _ e => by omega))
    have k2 := (k1.trans hk2 (fun j _ e => by omega)).trans hk3 (fun j _ e => by omega)
    exact k2.below (Nat.le_refl _) (fun _ h => h)
 case stop => exact fun _ _ _ _ _ _ h _ => h.elim
theorem ways_count {f : Fe} (h : Small f) : ((waysL f).length : Int) = countN f := by
 have h0 := h.t0
 rw [ways_len]
 unfold countN firstN stepN
 obtain ⟨t, ht⟩ : ∃ t : Nat, f.ticks = t := ⟨f.ticks.toNat, by omega⟩
 rw [ht, show ((t : Int) + 1).toNat = t + 1 from by omega, Int.toNat_natCast]
 push_cast
 omega
theorem net_len {f : Fe} (owner : Int) (sort : ByteArray) (L : List Rp) : ∀ (A : List Ar), (L.foldl (netStep f owner sort) A).length = A.length := by
 induction L with
 | nil => intro A; rfl
 | cons x r ih =>
  intro A
  rw [List.foldl_cons, ih]
  unfold netStep
  split
  ·exact List.length_modify _ _ _
  ·rfl
theorem net_step {f : Fe} (owner : Int) (sort : ByteArray) {L : List Rp} {k : Nat} {x : Rp} (h : L[k]? = some x) (A : List Ar) : (L.take (k + 1)).foldl (netStep f owner sort) A = netStep f owner sort ((L.take k).foldl (netStep f owner sort) A) x := by
 rw [take_some h, List.foldl_append]
 rfl
section
variable {α : Type} {enc : α → List Value} {n : Nat}
theorem cellsL_set (hn : ∀ x, (enc x).length = n) {a a' : α} {c : Nat} {u : Value} (hc : c < n) (ha : enc a' = (enc a).set c u) : ∀ (l : List α) (j : Nat), l[j]? = some a → (cellsL enc l).set (j * n + c) u = cellsL enc (l.set j a')
 | [], j, h => by simp at h
 | x :: r, 0, h => by
  simp only [List.getElem?_cons_zero, Option.some.injEq] at h
  subst h
  show (enc x ++ cellsL enc r).set (0 * n + c) u = enc a' ++ cellsL enc r
  rw [Nat.zero_mul, Nat.zero_add, List.set_append_left _ _ (by rw [hn]; exact hc), ha]
 | x :: r, j + 1, h => by
  have hr : r[j]? = some a := by simpa using h
  show (enc x ++ cellsL enc r).set ((j + 1) * n + c) u = enc x ++ cellsL enc (r.set j a')
  rw [List.set_append_right _ _ (by rw [hn, Nat.succ_mul]; omega), hn, show (j + 1) * n + c - n = j * n + c from by rw [Nat.succ_mul]; omega, cellsL_set hn hc ha r j hr]
end
theorem own_arc {w : World} {base g n cap : Nat} {l : List Ar} (h : w.ownsRow base 56 6 (.slice (some ⟨g, 0, none⟩) n cap) n (cellsL arC l)) {j : Nat} {a : Ar} (hj : l[j]? = some a) : CellsAt w g (j * 6) (arC a) ∧ ∀ o, w.frozen? ⟨g, o, none⟩ = false := by
 refine ⟨fun c u hu => ?_, fun o => h.frozenAt o⟩
 have hc : c < 6 := (List.getElem?_eq_some_iff.1 hu).1
 have hjl := (List.getElem?_eq_some_iff.1 hj).1
 have hlen : (cellsL arC l).length = n * 6 := h.1
 have h2 := cellsL_get arC_len l j c hc a hj
 have hlt : j * 6 + c < n * 6 := by
  have h3 := (List.getElem?_eq_some_iff.1 (h2.trans hu)).1
  omega
 rw [h.cellAt _ hlt, h2, hu]
theorem own_arc_set {w : World} {base g n cap : Nat} {l : List Ar} (h : w.ownsRow base 56 6 (.slice (some ⟨g, 0, none⟩) n cap) n (cellsL arC l)) {j c : Nat} {a a' : Ar} {u : Value} (hj : l[j]? = some a) (hc : c < 6) (ha : arC a' = (arC a).set c u) :
  (w.setCell ⟨g, j * 6 + c, none⟩ u).ownsRow base 56 6 (.slice (some ⟨g, 0, none⟩) n cap) n (cellsL arC (l.set j a')) := by
 have h1 := (h.stored (j * 6 + c) u).1
 rw [cellsL_set arC_len hc ha l j hj] at h1
 exact h1
theorem below_set {w W : World} (h : Below w.heap.size w W) {p : Addr} (v : Value) : Below (w.setCell p v).heap.size (w.setCell p v) (W.setCell p v) := by
 have e1 : (w.setCell p v).heap.size = w.heap.size := by simp [World.setCell]
 have e2 : (W.setCell p v).heap.size = W.heap.size := by simp [World.setCell]
 refine ⟨h.os, h.tape, h.output, by rw [e1, e2]; exact h.size, fun k hk => ?_⟩
 rw [e1] at hk
 by_cases e : p.block = k
 ·subst e
  simp only [World.setCell, Array.getElem?_modify]
  rw [h.block _ hk]
 ·rw [Below.heap_setCell W p v k (Ne.symm e), Below.heap_setCell w p v k (Ne.symm e)]
  exact h.block k hk
theorem row_two {w W : World} {base g n cap : Nat} {l : List Ar} (h : w.ownsRow base 56 6 (.slice (some ⟨g, 0, none⟩) n cap) n (cellsL arC l)) {j c c' : Nat} {a a' a'' : Ar} {u u' : Value} (hj : l[j]? = some a) (hc : c < 6) (hc' : c' < 6)
  (ha : arC a' = (arC a).set c u) (ha' : arC a'' = (arC a').set c' u') (hb : Below (w.setCell ⟨g, j * 6 + c, none⟩ u).heap.size (w.setCell ⟨g, j * 6 + c, none⟩ u) W) :
  (W.setCell ⟨g, j * 6 + c', none⟩ u').ownsRow base 56 6 (.slice (some ⟨g, 0, none⟩) n cap) n (cellsL arC (l.set j a'')) := by
 have h1 := own_below (own_arc_set h hj hc ha) hb
 have hjl := (List.getElem?_eq_some_iff.1 hj).1
 have h2 := own_arc_set h1 (j := j) (c := c') (a := a') (a' := a'') (u := u') (by rw [List.getElem?_set, if_pos rfl, if_pos hjl]) hc' ha'
 rw [List.set_set] at h2
 exact h2
theorem tl_inj {a b : ByteArray} (h : a.toList = b.toList) : a = b := by
 rw [ByteArray.toList_eq, ByteArray.toList_eq] at h
 cases a
 cases b
 simpa using h
theorem set_same {l : List Ar} {j : Nat} {a : Ar} (h : l[j]? = some a) : l.set j a = l := by
 apply List.ext_getElem?
 intro i
 rw [List.getElem?_set]
 by_cases e : j = i
 ·subst e
  rw [if_pos rfl, if_pos (List.getElem?_eq_some_iff.1 h).1, h]
 ·rw [if_neg e]
theorem narrow_tt {y : Ar} {x : Rp} (h1 : y.low < x.low) (h2 : x.high < y.high) : narrow y x = { y with low := x.low, lowBy := x.id, high := x.high, highBy := x.id } := by
 unfold narrow
 rw [if_pos h1, if_pos h2]
theorem narrow_tf {y : Ar} {x : Rp} (h1 : y.low < x.low) (h2 : ¬ x.high < y.high) : narrow y x = { y with low := x.low, lowBy := x.id } := by
 unfold narrow
 rw [if_pos h1, if_neg h2]
theorem narrow_ft {y : Ar} {x : Rp} (h1 : ¬ y.low < x.low) (h2 : x.high < y.high) : narrow y x = { y with high := x.high, highBy := x.id } := by
 unfold narrow
 rw [if_neg h1, if_pos h2]
theorem narrow_ff {y : Ar} {x : Rp} (h1 : ¬ y.low < x.low) (h2 : ¬ x.high < y.high) : narrow y x = y := by
 unfold narrow
 rw [if_neg h1, if_neg h2]
theorem modify_set {l : List Ar} {j : Nat} {a : Ar} (h : l[j]? = some a) (g : Ar → Ar) : l.modify j g = l.set j (g a) := by
 apply List.ext_getElem?
 intro i
 rw [List.getElem?_modify, List.getElem?_set]
 by_cases e : j = i
 ·subst e
  have hlt := (List.getElem?_eq_some_iff.1 h).1
  rw [h, if_pos rfl, if_pos hlt]
  simp
 ·rw [if_neg e]
  simp [e]
theorem countV_2' (f : Fe) (l : List Rp) (known : Int) : (countV f l known).2 = (checkV f l).2 := by
 unfold countV
 by_cases h : (checkV f l).2 = 0
 ·rw [if_neg (by omega)]; exact h.symm
 ·rw [if_pos h]
theorem check_fell {f : Fe} {l : List Rp} (h : (checkV f l).2 = 0) : checkE f = 0 := by
 unfold checkV at h
 by_cases h2 : checkE f = 0
 ·exact h2
 ·rw [if_pos h2] at h; exact (h2 h).elim
def GivesNt (r : Nt × Int) (w : World) (e : Ending) (w' : World) : Prop := ∃ v, e = .returned (.tuple #[.agg #[.int .i64 r.1.n, v], .int .i64 r.2]) ∧ OwnA w' w.heap.size v r.1.arcs ∧ Below w.heap.size w w'
theorem c_kinds (w : World) : Calls Tryz.prog 135 #[] w fun e w' => e = .returned (.slice (some ⟨w.heap.size, 0, none⟩) 9 9) ∧ Strs w' (some ⟨w.heap.size, 0, none⟩) kindsL ∧ Below w.heap.size w w' := by
 have hs := Lst.new strC_len w kindsL 9 (by decide)
 have HS := Lib.hid hs
 clear hs
 go_enter Tryz.func135, Tryz.ntmps135
 go_wp2
 go_ret
 exact ⟨rfl, HS.out, by go_grown⟩
theorem thingsN_len (f : Fe) (k : Int) : ((thingsL f k).length : Int) = thingsN f k := by
 unfold thingsL thingsN
 split
 ·simp [gtNames]
 ·simp [plNames]
theorem c_things_2 (m : Fm) (w : World) (hm : m.In w) : Calls Tryz.prog 136 #[m.v, .int .u8 2] w (GivesS (thingsL m.f 2) w) := by
 have hP := fun W (hb : Below w.heap.size w W) => c_gates m W (hm.later hb)
 have HP := Lib.hid hP
 rw [show thingsL m.f 2 = gtNames m.f.gates from by unfold thingsL; rw [if_pos (by decide)]]
 clear hP hm
 go_enter Tryz.func136, Tryz.ntmps136
 go_upto_region 1 with (fail)
 go_name_world W1 hW1
 have hb0 : Below w.heap.size w W1 := by subst hW1; go_grown
 obtain ⟨q0, q1, q2, q3⟩ := (show QB m W1 w.heap.size from by subst hW1; and_intros <;> go_simp)
 clear hW1 
 go_wp2_with fail
 refine (HP.out _ hb0).mono ?_
 rintro e W2 ⟨⟨b, c, rfl, hs⟩, hB⟩
 have HS := Lib.hid hs
 have hbn := bthen hb0 hB
 clear hs hB hb0
 go_wp2
 go_ret
 exact ⟨⟨b, c, rfl, HS.out⟩, hbn⟩
theorem c_things_3 (m : Fm) (w : World) (hm : m.In w) : Calls Tryz.prog 136 #[m.v, .int .u8 3] w (GivesS (thingsL m.f 3) w) := by
 have hP := fun W (hb : Below w.heap.size w W) => c_gates m W (hm.later hb)
 have HP := Lib.hid hP
 rw [show thingsL m.f 3 = gtNames m.f.gates from by unfold thingsL; rw [if_pos (by decide)]]
 clear hP hm
 go_enter Tryz.func136, Tryz.ntmps136
 go_upto_region 1 with (fail)
 go_name_world W1 hW1
 have hb0 : Below w.heap.size w W1 := by subst hW1; go_grown
 obtain ⟨q0, q1, q2, q3⟩ := (show QB m W1 w.heap.size from by subst hW1; and_intros <;> go_simp)
 clear hW1 
 go_wp2_with fail
 refine (HP.out _ hb0).mono ?_
 rintro e W2 ⟨⟨b, c, rfl, hs⟩, hB⟩
 have HS := Lib.hid hs
 have hbn := bthen hb0 hB
 clear hs hB hb0
 go_wp2
 go_ret
 exact ⟨⟨b, c, rfl, HS.out⟩, hbn⟩
theorem c_things_no (m : Fm) (k : Int) (h2 : ¬ k = 2) (h3 : ¬ k = 3) (w : World) (hm : m.In w) : Calls Tryz.prog 136 #[m.v, .int .u8 k] w (GivesS (thingsL m.f k) w) := by
 have hP := fun W (hb : Below w.heap.size w W) => c_places m W (hm.later hb)
 have HP := Lib.hid hP
 rw [show thingsL m.f k = plNames m.f.places from by unfold thingsL; rw [if_neg (by omega)]]
 clear hP hm
 have e2 : (k == 2) = false := beq_eq_false_iff_ne.2 h2
 have e3 : (k == 3) = false := beq_eq_false_iff_ne.2 h3
 clear h2 h3
 go_enter Tryz.func136, Tryz.ntmps136
 go_upto_region 1 with (fail)
 go_name_world W1 hW1
 have hb0 : Below w.heap.size w W1 := by subst hW1; go_grown
 obtain ⟨q0, q1, q2, q3⟩ := (show QB m W1 w.heap.size from by subst hW1; and_intros <;> go_simp)
 clear hW1 
 go_wp2_with fail
 refine (HP.out _ hb0).mono ?_
 rintro e W2 ⟨⟨b, c, rfl, hs⟩, hB⟩
 have HS := Lib.hid hs
 have hbn := bthen hb0 hB
 clear hs hB hb0
 go_wp2
 go_ret
 exact ⟨⟨b, c, rfl, HS.out⟩, hbn⟩
theorem c_things (m : Fm) (k : Int) (w : World) (hm : m.In w) : Calls Tryz.prog 136 #[m.v, .int .u8 k] w (GivesS (thingsL m.f k) w) := by
 by_cases h2 : k = 2
 ·subst h2; exact c_things_2 m w hm
 ·by_cases h3 : k = 3
  ·subst h3; exact c_things_3 m w hm
  ·exact c_things_no m k h2 h3 w hm
def numE (o : Option Int) : Ending := match o with
 | some n => .returned (.int .i64 n)
 | none => .panicked (givesUp 4)
theorem c_numW_no (s : ByteArray) (w : World) (hl : LibW w) (hs : s.size ≤ 1000000) (h : ∀ v, Lib.atoiAll s.data.toList ≠ .ok v) : Calls Tryz.prog 133 #[.string s] w fun e w' => e = .panicked (givesUp 4) ∧ Below w.heap.size w w' := by
 have hA := c_Atoi_no s w hl hs h
 have HA := Lib.hid hA
 clear hA hl h hs
 go_enter Tryz.func133, Tryz.ntmps133
 go_wp2_with fail
 refine HA.out.mono ?_
 rintro e W1 ⟨⟨x, t, p, rfl⟩, hB⟩
 go_wp2_with fail
 refine (c_unless_f _ _).mono ?_
 rintro e w2 ⟨rfl, rfl⟩
 go_wp2
 exact ⟨rfl, rfl, hB⟩
theorem c_numW_neg (s : ByteArray) (w : World) (hl : LibW w) (hs : s.size ≤ 1000000) (n : Int) (h : Lib.atoiAll s.data.toList = .ok n) (h1 : ¬ 0 ≤ n) : Calls Tryz.prog 133 #[.string s] w fun e w' => e = .panicked (givesUp 4) ∧ Below w.heap.size w w' := by
 have hA := c_Atoi_ok s n w hs h
 have hn := Lib.atoiAll_bounds h
 have HI := Lib.hid (fun W (hb : Below w.heap.size w W) => c_Itoa n W (hl.later hb) hn)
 have HA := Lib.hid hA
 have hd : decide (n ≥ 0) = false := decide_eq_false h1
 clear hA hl h hs h1
 go_enter Tryz.func133, Tryz.ntmps133
 go_wp2_with fail
 refine HA.out.mono ?_
 rintro e W1 ⟨rfl, hB⟩
 go_wp2_with fail
 refine (c_unless_f _ _).mono ?_
 rintro e w2 ⟨rfl, rfl⟩
 go_wp2
 exact ⟨rfl, rfl, hB⟩
theorem c_numW_diff (s : ByteArray) (w : World) (hl : LibW w) (hs : s.size ≤ 1000000) (n : Int) (h : Lib.atoiAll s.data.toList = .ok n) (h1 : 0 ≤ n) (h2 : ¬ itoaS n = s) : Calls Tryz.prog 133 #[.string s] w fun e w' => e = .panicked (givesUp 4) ∧ Below w.heap.size w w' := by
 have hA := c_Atoi_ok s n w hs h
 have hn := Lib.atoiAll_bounds h
 have HI := Lib.hid (fun W (hb : Below w.heap.size w W) => c_Itoa n W (hl.later hb) hn)
 have HA := Lib.hid hA
 have hd : decide (n ≥ 0) = true := decide_eq_true h1
 have hq : ((itoaS n).toList == s.toList) = false := beq_eq_false_iff_ne.2 (fun h => h2 (tl_inj h))
 clear hA hl h hs h1 h2
 go_enter Tryz.func133, Tryz.ntmps133
 go_wp2_with fail
 refine HA.out.mono ?_
 rintro e W1 ⟨rfl, hB⟩
 go_wp2_with fail
 refine (HI.out _ hB).mono ?_
 rintro e W2 ⟨rfl, hB2⟩
 have hbn := bthen hB hB2
 clear hB hB2
 go_wp2_with fail
 refine (c_unless_f _ _).mono ?_
 rintro e w2 ⟨rfl, rfl⟩
 go_wp2
 exact ⟨rfl, rfl, hbn⟩
theorem c_numW_ok (s : ByteArray) (w : World) (hl : LibW w) (hs : s.size ≤ 1000000) (n : Int) (h : Lib.atoiAll s.data.toList = .ok n) (h1 : 0 ≤ n) (h2 : itoaS n = s) : Calls Tryz.prog 133 #[.string s] w fun e w' => e = .returned (.int .i64 n) ∧ Below w.heap.size w w' := by
 have hA := c_Atoi_ok s n w hs h
 have hn := Lib.atoiAll_bounds h
 have HI := Lib.hid (fun W (hb : Below w.heap.size w W) => c_Itoa n W (hl.later hb) hn)
 have HA := Lib.hid hA
 have hd : decide (n ≥ 0) = true := decide_eq_true h1
 have hq : ((itoaS n).toList == s.toList) = true := by rw [h2]; simp
 clear hA hl h hs h1 h2
 go_enter Tryz.func133, Tryz.ntmps133
 go_wp2_with fail
 refine HA.out.mono ?_
 rintro e W1 ⟨rfl, hB⟩
 go_wp2_with fail
 refine (HI.out _ hB).mono ?_
 rintro e W2 ⟨rfl, hB2⟩
 have hbn := bthen hB hB2
 clear hB hB2
 go_wp2_with fail
 refine (c_unless_t _ _).mono ?_
 rintro e w2 ⟨rfl, rfl⟩
 go_wp2
 go_ret
 exact ⟨rfl, hbn⟩
theorem c_numW (s : ByteArray) (w : World) (hl : LibW w) (hs : s.size ≤ 1000000) : Calls Tryz.prog 133 #[.string s] w fun e w' => e = numE (numO s) ∧ Below w.heap.size w w' := by
 cases hc : Lib.atoiAll s.data.toList with
 | ok n =>
  by_cases h1 : 0 ≤ n
  ·by_cases h2 : itoaS n = s
   ·rw [show numO s = some n from by unfold numO; rw [hc]; dsimp only; rw [if_pos ⟨h1, h2⟩]]
    exact c_numW_ok s w hl hs n hc h1 h2
   ·rw [show numO s = none from by unfold numO; rw [hc]; dsimp only; rw [if_neg (fun h => h2 h.2)]]
    exact c_numW_diff s w hl hs n hc h1 h2
  ·rw [show numO s = none from by unfold numO; rw [hc]; dsimp only; rw [if_neg (fun h => h1 h.1)]]
   exact c_numW_neg s w hl hs n hc h1
 | _ =>
  rw [show numO s = none from by unfold numO; rw [hc]]
  exact c_numW_no s w hl hs (fun v hv => by rw [hc] at hv; cases hv)
theorem c_short_long (s : ByteArray) (w : World) (_hl : LibW w) (hs : s.size ≤ 1000000) (h : ¬ s.size ≤ 6) : Calls Tryz.prog 90 #[.string s] w fun e w' => e = numE (none) ∧ Below w.heap.size w w' := by
 have hd : decide ((s.size : Int) ≤ 6) = false := decide_eq_false (by omega)
 clear _hl hs
 go_enter Tryz.func90, Tryz.ntmps90
 go_wp2_with fail
 refine (c_unless_f _ _).mono ?_
 rintro e w2 ⟨rfl, rfl⟩
 go_wp2
 exact ⟨rfl, rfl, Below.refl _ _⟩
theorem c_short_ok (s : ByteArray) (w : World) (hl : LibW w) (hs : s.size ≤ 1000000) (h : s.size ≤ 6) : Calls Tryz.prog 90 #[.string s] w fun e w' => e = numE (numO s) ∧ Below w.heap.size w w' := by
 have hd : decide ((s.size : Int) ≤ 6) = true := decide_eq_true (by omega)
 have hN := c_numW s w hl hs
 obtain ⟨o, ho⟩ : ∃ o, numO s = o := ⟨_, rfl⟩
 rw [ho] at hN ⊢
 have HN := Lib.hid hN
 clear hN hl ho hs
 go_enter Tryz.func90, Tryz.ntmps90
 go_wp2_with fail
 refine (c_unless_t _ _).mono ?_
 rintro e w2 ⟨rfl, rfl⟩
 go_wp2_with fail
 refine HN.out.mono ?_
 rintro e w2 ⟨rfl, hB⟩
 cases o with
 | some n =>
  dsimp only [numE]
  go_wp2
  go_ret
  exact ⟨rfl, hB⟩
 | none =>
  dsimp only [numE]
  go_wp2
  exact ⟨rfl, rfl, hB⟩
theorem c_short (s : ByteArray) (w : World) (hl : LibW w) (hs : s.size ≤ 1000000) : Calls Tryz.prog 90 #[.string s] w fun e w' => e = numE (shortO s) ∧ Below w.heap.size w w' := by
 unfold shortO
 by_cases h : s.size ≤ 6
 ·rw [if_pos h]; exact c_short_ok s w hl hs h
 ·rw [if_neg h]; exact c_short_long s w hl hs h
end Go.Proofs.YtlppdgaogdpajaaGreatDoor
