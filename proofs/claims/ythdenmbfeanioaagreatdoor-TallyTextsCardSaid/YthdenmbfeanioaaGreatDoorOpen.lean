/- This text proves that a slice of re-counts, of integers, of intervals, of rates or of tallies that a law is handed reads as a list, and that it reads behind the call as it read ahead of it. The theorem open_slice_fields is copied from the kit's page extra-structs, as that page says. -/
import Derived.Test.YthdenmbfeanioaaGreatDoorShut
import Derived.Deep.Slices
import Derived.Deep.Fields
import Derived.ChangeSame
namespace Go.Proofs.YthdenmbfeanioaaGreatDoor
open Go.Joins Go.ChangeShapes Go.WideShapes Go.RowKit Go.Deep

section
variable {H : Type} {enc : TypeId × Value → H} {P : Program} {w : World} {base : Nat} {spare : Nat → Bool} {held : Bool}
theorem open_slice_fields {t e : TypeId} {fs : Array Field} {fuel : Nat} {cs : List Value} {x : DataW H × List MemPlace} (ht : P.underlying t = some (.slice e)) (he : P.underlying e = some (.struct fs))
    (hone : oneCellFields P fs = true) (hC : P.cellsOf e = fs.size) (h : DataW.trod enc P w base spare held fuel t cs = some x) :
    (cs = [.slice none 0 0] ∧ x = (.nil, [])) ∨
    ∃ (a : Addr) (len cap m : Nat) (D : Nat → DataW H) (Pl : Nat → List MemPlace), cs = [.slice (some a) len cap] ∧ base ≤ a.block ∧ len ≤ cap ∧ cap ≤ maxLen ∧ m = (if spare a.block then cap else len) ∧
      x = (.slice ((List.range len).map D) ((List.range (m - len)).map fun j => D (len + j)), MemPlace.row a (m * fs.size) ++ (List.range m).flatMap Pl) ∧
      ∀ i, i < m → ∃ (ys : List (DataW H × List MemPlace)) (n : Nat), D i = .agg (ys.map (·.1)) ∧ Pl i = ys.flatMap (·.2) ∧ ys.length = fs.size ∧
        ∀ (j : Nat) (f : Field), fs[j]? = some f → ∃ (v : Value) (y : DataW H × List MemPlace), w.cell? (a.add (i * fs.size + j)) = some v ∧ ys[j]? = some y ∧ DataW.trod enc P w base spare held n f.type [v] = some y := by
  rcases open_slice ht h with h0 | ⟨a, len, cap, m, n, D, Pl, hcs, hb, hl, hm, hmm, hx, hi⟩
  · exact .inl h0
  · refine .inr ⟨a, len, cap, m, D, Pl, hcs, hb, hl, hm, hmm, by rw [hC] at hx; exact hx, fun i him => ?_⟩
    obtain ⟨cs', hc, ht'⟩ := hi i him
    rw [hC] at hc
    obtain ⟨ys, n', hn', hy, hlen, hyl, hf⟩ := DataW.trod_struct he ht'
    obtain ⟨_, hcl, hat⟩ := World.cells?_some hc
    simp only [Prod.mk.injEq] at hy
    refine ⟨ys, n', hy.1, hy.2, hyl, fun j f hj => ?_⟩
    obtain ⟨ho, hk⟩ := hone_of hone j f hj
    have hjl : j < fs.size := (Array.getElem?_eq_some_iff.1 hj).1
    have hcell := hat j hjl
    have hv : cs'[j]? = some (cs'[j]'(by omega)) := List.getElem?_eq_getElem (by omega)
    have h1 := hf j f hj
    rw [ho, hk] at h1
    have hone' : (cs'.drop j).take 1 = [cs'[j]'(by omega)] := by
      rw [List.drop_eq_getElem_cons (by omega)]
      rfl
    rw [hone'] at h1
    have hys : ys[j]? = some (ys[j]'(by omega)) := List.getElem?_eq_getElem (by omega)
    refine ⟨_, _, ?_, hys, h1.trans hys⟩
    rw [← Go.Deep.add_add, hcell, hv]
end

theorem list_of {α : Type} [Inhabited α] {n : Nat} {p : Nat → α → Prop} (h : ∀ i, i < n → ∃ x, p i x) : ∃ l : List α, l.length = n ∧ ∀ i, i < n → p i (l[i]?.getD default) := by
  obtain ⟨f, hf⟩ := choose_lt h
  refine ⟨(List.range n).map f, by simp, fun i hi => ?_⟩
  have : ((List.range n).map f)[i]?.getD default = f i := by simp [hi]
  rw [this]
  exact hf i hi

theorem staysB {H : Type} {enc : TypeId × Value → H} {W W' : World} {t : TypeId} {v : Value} {d : DataW H} {p q : List MemPlace} (h : DataW.Trod enc Tryz.prog W 0 (fun _ => true) true t v d p) (hr : Tryz.prog.readableRec t = true) (ht : decide (t < Tryz.prog.types.size) = true)
    (hb : Below W.heap.size W W') (hq : ∀ x ∈ q, x.block < W.heap.size) (hpq : ∀ x ∈ p, x ∈ q) (sp : Nat → Bool) (hs : ∀ x ∈ q, sp x.block = true) :
    DataW.Trod enc Tryz.prog W' 0 sp true t v d p :=
  WideElems.Trod_stays laidOut hr (of_decide_eq_true ht) h (fun x hx => by
    have := hq x (hpq x hx)
    cases x with
    | cell b o => exact hb.cell (p := ⟨b, o, none⟩) this
    | map b => exact hb.block b this) (fun x hx => hs x (hpq x hx))

theorem add_cell (a : Addr) (b o n : Nat) (W : World) (v : Value) (e : a = ⟨b, o, none⟩) (h : W.cell? (a.add n) = some v) : W.cell? ⟨b, o + n, none⟩ = some v := by
  subst e
  unfold Addr.add at h
  split at h
  · rename_i hn; subst hn; simpa using h
  · exact h
theorem add_cell2 (a : Addr) (b o m n : Nat) (W : World) (v : Value) (e : a = ⟨b, o, none⟩) (h : W.cell? (a.add (m + n)) = some v) : W.cell? ⟨b, o + m + n, none⟩ = some v := by
  rw [Nat.add_assoc]
  exact add_cell a b o _ W v e h
theorem spot_of (a : Addr) (W : World) (v : Value) (h : W.cell? (a.add 0) = some v) : a = ⟨a.block, a.off, none⟩ := by
  have := World.cell?_spot h
  simp only [Addr.add, if_true] at this
  obtain ⟨b, o, s⟩ := a
  simp only at this
  subst this
  rfl
section
variable {H : Type} {enc : TypeId × Value → H} {W : World}

set_option maxRecDepth 100000 in
theorem open_recs {base : Nat} {v : Value} {d : DataW H} {p : List MemPlace} (hv : ∀ j : Nat, j = 0 → Value.okWide Tryz.prog W .any base 49 v) (h : DataW.Trod enc Tryz.prog W 0 (fun _ => true) true 49 v d p) :
    ∃ (a : Option Addr) (l : List Rc) (cap : Nat), v = .slice a l.length cap ∧ l.length ≤ maxLen ∧ (l.length ≤ 1000000000000 → Recs W a l) := by
  obtain ⟨a0, len0, cap0, rfl⟩ := okWide_slice Tryz.underlying49 (hv 0 rfl)
  obtain ⟨fuel, hf⟩ := h
  rcases open_slice_fields Tryz.underlying49 Tryz.underlying25 (by kernel_rfl) (by kernel_rfl) hf with ⟨hc, hx⟩ | ⟨a, len, cap, m, D, Pl, hc, _, hl, hcap, hm, hx, hi⟩
  · simp [Value.cells] at hc
    obtain ⟨rfl, rfl, rfl⟩ := hc
    exact ⟨none, [], 0, rfl, by simp, fun _ => ⟨by simp, fun h => (h rfl).elim⟩⟩
  · simp [Value.cells] at hc
    obtain ⟨rfl, rfl, rfl⟩ := hc
    simp only [if_true] at hm
    subst hm
    have hall : ∀ i, i < len0 → ∃ x : Rc, W.cell? (a.add (i * 6 + 0)) = some (.int .i64 (x.i)) ∧ W.cell? (a.add (i * 6 + 1)) = some (.int .i64 (x.d)) ∧ W.cell? (a.add (i * 6 + 2)) = some (.int .i64 (x.k)) ∧ W.cell? (a.add (i * 6 + 3)) = some (.int .i64 (x.s)) ∧ W.cell? (a.add (i * 6 + 4)) = some (.int .i64 (x.t)) ∧ W.cell? (a.add (i * 6 + 5)) = some (.int .i64 (x.n)) := by
      intro i hi0
      obtain ⟨ys, n, _, _, _, hf⟩ := hi i (by omega)
      obtain ⟨v0, y0, c0, _, r0⟩ := hf 0 _ rfl
      obtain ⟨z0, e0, _, _⟩ := DataW.trod_int Tryz.underlying3 r0
      simp only [List.cons.injEq, and_true] at e0
      subst e0
      obtain ⟨v1, y1, c1, _, r1⟩ := hf 1 _ rfl
      obtain ⟨z1, e1, _, _⟩ := DataW.trod_int Tryz.underlying3 r1
      simp only [List.cons.injEq, and_true] at e1
      subst e1
      obtain ⟨v2, y2, c2, _, r2⟩ := hf 2 _ rfl
      obtain ⟨z2, e2, _, _⟩ := DataW.trod_int Tryz.underlying3 r2
      simp only [List.cons.injEq, and_true] at e2
      subst e2
      obtain ⟨v3, y3, c3, _, r3⟩ := hf 3 _ rfl
      obtain ⟨z3, e3, _, _⟩ := DataW.trod_int Tryz.underlying3 r3
      simp only [List.cons.injEq, and_true] at e3
      subst e3
      obtain ⟨v4, y4, c4, _, r4⟩ := hf 4 _ rfl
      obtain ⟨z4, e4, _, _⟩ := DataW.trod_int Tryz.underlying3 r4
      simp only [List.cons.injEq, and_true] at e4
      subst e4
      obtain ⟨v5, y5, c5, _, r5⟩ := hf 5 _ rfl
      obtain ⟨z5, e5, _, _⟩ := DataW.trod_int Tryz.underlying3 r5
      simp only [List.cons.injEq, and_true] at e5
      subst e5
      exact ⟨⟨z0, z1, z2, z3, z4, z5⟩, c0, c1, c2, c3, c4, c5⟩
    obtain ⟨l, hlen, hat⟩ := list_of hall
    subst hlen
    refine ⟨some a, l, _, rfl, by omega, fun hb => ⟨hb, fun hne => ?_⟩⟩
    have h0 : 0 < l.length := List.length_pos_iff.2 hne
    have hs := spot_of a W _ (by simpa using (hat 0 h0).1)
    refine ⟨a.block, a.off, by rw [← hs], fun k hk => ?_⟩
    obtain ⟨c0, c1, c2, c3, c4, c5⟩ := hat k hk
    exact ⟨add_cell a _ _ _ W _ hs c0, add_cell2 a _ _ _ 1 W _ hs c1, add_cell2 a _ _ _ 2 W _ hs c2, add_cell2 a _ _ _ 3 W _ hs c3, add_cell2 a _ _ _ 4 W _ hs c4, add_cell2 a _ _ _ 5 W _ hs c5⟩

set_option maxRecDepth 100000 in
theorem open_ivs {base : Nat} {v : Value} {d : DataW H} {p : List MemPlace} (hv : ∀ j : Nat, j = 0 → Value.okWide Tryz.prog W .any base 100 v) (h : DataW.Trod enc Tryz.prog W 0 (fun _ => true) true 100 v d p) :
    ∃ (a : Option Addr) (l : List Iv) (cap : Nat), v = .slice a l.length cap ∧ l.length ≤ maxLen ∧ (l.length ≤ 1000000000000 → Ivs W a l) := by
  obtain ⟨a0, len0, cap0, rfl⟩ := okWide_slice Tryz.underlying100 (hv 0 rfl)
  obtain ⟨fuel, hf⟩ := h
  rcases open_slice_fields Tryz.underlying100 Tryz.underlying42 (by kernel_rfl) (by kernel_rfl) hf with ⟨hc, hx⟩ | ⟨a, len, cap, m, D, Pl, hc, _, hl, hcap, hm, hx, hi⟩
  · simp [Value.cells] at hc
    obtain ⟨rfl, rfl, rfl⟩ := hc
    exact ⟨none, [], 0, rfl, by simp, fun _ => ⟨by simp, fun h => (h rfl).elim⟩⟩
  · simp [Value.cells] at hc
    obtain ⟨rfl, rfl, rfl⟩ := hc
    simp only [if_true] at hm
    subst hm
    have hall : ∀ i, i < len0 → ∃ x : Iv, W.cell? (a.add (i * 3 + 0)) = some (.int .i64 (x.lo)) ∧ W.cell? (a.add (i * 3 + 1)) = some (.int .i64 (x.hi)) ∧ W.cell? (a.add (i * 3 + 2)) = some (.bool (x.some)) := by
      intro i hi0
      obtain ⟨ys, n, _, _, _, hf⟩ := hi i (by omega)
      obtain ⟨v0, y0, c0, _, r0⟩ := hf 0 _ rfl
      obtain ⟨z0, e0, _, _⟩ := DataW.trod_int Tryz.underlying3 r0
      simp only [List.cons.injEq, and_true] at e0
      subst e0
      obtain ⟨v1, y1, c1, _, r1⟩ := hf 1 _ rfl
      obtain ⟨z1, e1, _, _⟩ := DataW.trod_int Tryz.underlying3 r1
      simp only [List.cons.injEq, and_true] at e1
      subst e1
      obtain ⟨v2, y2, c2, _, r2⟩ := hf 2 _ rfl
      obtain ⟨z2, e2, _⟩ := DataW.trod_bool Tryz.underlying4 r2
      simp only [List.cons.injEq, and_true] at e2
      subst e2
      exact ⟨⟨z0, z1, z2⟩, c0, c1, c2⟩
    obtain ⟨l, hlen, hat⟩ := list_of hall
    subst hlen
    refine ⟨some a, l, _, rfl, by omega, fun hb => ⟨hb, fun hne => ?_⟩⟩
    have h0 : 0 < l.length := List.length_pos_iff.2 hne
    have hs := spot_of a W _ (by simpa using (hat 0 h0).1)
    refine ⟨a.block, a.off, by rw [← hs], fun k hk => ?_⟩
    obtain ⟨c0, c1, c2⟩ := hat k hk
    exact ⟨add_cell a _ _ _ W _ hs c0, add_cell2 a _ _ _ 1 W _ hs c1, add_cell2 a _ _ _ 2 W _ hs c2⟩

structure Rt where
  m : Int
  d : Int
deriving DecidableEq, Inhabited
abbrev Rt.v (x : Rt) : Value := .agg #[.int .i64 x.m, .int .i64 x.d]
structure RtAt (w : World) (b o : Nat) (x : Rt) : Prop where
  m : w.cell? ⟨b, o, none⟩ = some (.int .i64 x.m)
  d : w.cell? ⟨b, o + 1, none⟩ = some (.int .i64 x.d)
theorem RtAt.later {w w1 : World} {b o : Nat} {x : Rt} (h : RtAt w b o x) (hb : Below w.heap.size w w1) : RtAt w1 b o x :=
  have k := (bcell hb).1 b
  ⟨(k _ (cell_lt h.m)).trans h.m, (k _ (cell_lt h.m)).trans h.d⟩
def rt (l : List Rt) (k : Nat) : Rt := l[k]?.getD default
def Rts (w : World) (a : Option Addr) (l : List Rt) : Prop := l.length ≤ 1000000000000 ∧ (l ≠ [] → ∃ b o, a = some ⟨b, o, none⟩ ∧ ∀ k, k < l.length → RtAt w b (o + k * 2) (rt l k))
theorem Rts.later {w w1 : World} {a : Option Addr} {l : List Rt} (h : Rts w a l) (hb : Below w.heap.size w w1) : Rts w1 a l :=
  ⟨h.1, fun hl => by obtain ⟨b, o, ha, hk⟩ := h.2 hl; exact ⟨b, o, ha, fun k hk' => (hk k hk').later hb⟩⟩

structure Ct where
  i : Int
  d : Int
  s : Int
  n : Int
  wo : Int
deriving DecidableEq, Inhabited
abbrev Ct.v (x : Ct) : Value := .agg #[.int .i64 x.i, .int .i64 x.d, .int .i64 x.s, .int .i64 x.n, .int .i64 x.wo]
structure CtAt (w : World) (b o : Nat) (x : Ct) : Prop where
  i : w.cell? ⟨b, o, none⟩ = some (.int .i64 x.i)
  d : w.cell? ⟨b, o + 1, none⟩ = some (.int .i64 x.d)
  s : w.cell? ⟨b, o + 2, none⟩ = some (.int .i64 x.s)
  n : w.cell? ⟨b, o + 3, none⟩ = some (.int .i64 x.n)
  wo : w.cell? ⟨b, o + 4, none⟩ = some (.int .i64 x.wo)
theorem CtAt.later {w w1 : World} {b o : Nat} {x : Ct} (h : CtAt w b o x) (hb : Below w.heap.size w w1) : CtAt w1 b o x :=
  have k := (bcell hb).1 b
  ⟨(k _ (cell_lt h.i)).trans h.i, (k _ (cell_lt h.i)).trans h.d, (k _ (cell_lt h.i)).trans h.s, (k _ (cell_lt h.i)).trans h.n, (k _ (cell_lt h.i)).trans h.wo⟩
def ct (l : List Ct) (k : Nat) : Ct := l[k]?.getD default
def Cts (w : World) (a : Option Addr) (l : List Ct) : Prop := l.length ≤ 1000000000000 ∧ (l ≠ [] → ∃ b o, a = some ⟨b, o, none⟩ ∧ ∀ k, k < l.length → CtAt w b (o + k * 5) (ct l k))
theorem Cts.later {w w1 : World} {a : Option Addr} {l : List Ct} (h : Cts w a l) (hb : Below w.heap.size w w1) : Cts w1 a l :=
  ⟨h.1, fun hl => by obtain ⟨b, o, ha, hk⟩ := h.2 hl; exact ⟨b, o, ha, fun k hk' => (hk k hk').later hb⟩⟩

set_option maxRecDepth 100000 in
theorem open_nums {base : Nat} {v : Value} {d : DataW H} {p : List MemPlace} (hv : ∀ j : Nat, j = 0 → Value.okWide Tryz.prog W .any base 52 v) (h : DataW.Trod enc Tryz.prog W 0 (fun _ => true) true 52 v d p) :
    ∃ (a : Option Addr) (l : List Int) (cap : Nat), v = .slice a l.length cap ∧ l.length ≤ maxLen ∧ (l.length ≤ 1000000000000 → Ints W a l) := by
  obtain ⟨a0, len0, cap0, rfl⟩ := okWide_slice Tryz.underlying52 (hv 0 rfl)
  obtain ⟨fuel, hf⟩ := h
  rcases open_ints Tryz.underlying52 Tryz.underlying3 (by kernel_rfl) hf with ⟨hc, hx⟩ | ⟨a, len, cap, zs, hc, _, hl, hcap, hz, hx, hi, _⟩
  · simp [Value.cells] at hc
    obtain ⟨rfl, rfl, rfl⟩ := hc
    exact ⟨none, [], 0, rfl, by simp, fun _ => ⟨by simp, fun h => (h rfl).elim⟩⟩
  · simp [Value.cells] at hc
    obtain ⟨rfl, rfl, rfl⟩ := hc
    simp only [if_true] at hz
    have hl2 : (zs.take len0).length = len0 := by simp; omega
    refine ⟨some a, zs.take len0, cap0, by rw [hl2], by omega, fun hb => ⟨hb, fun hne => ?_⟩⟩
    have h0 : 0 < len0 := by rw [← hl2]; exact List.length_pos_iff.2 hne
    have hs := spot_of a W _ (hi 0 (by omega))
    refine ⟨a.block, a.off, by rw [← hs], fun k hk => ?_⟩
    have := add_cell a _ _ _ W _ hs (hi k (by omega))
    rw [this]
    have hk' : k < len0 := by omega
    simp [it, List.getD, hk']

/-- A slice's cells: a list of integers, of whatever length. -/
def IntsX (w : World) (a : Option Addr) (l : List Int) : Prop := l ≠ [] → ∃ b o, a = some ⟨b, o, none⟩ ∧ ∀ k, k < l.length → w.cell? ⟨b, o + k, none⟩ = some (.int .i64 (it l k))
set_option maxRecDepth 100000 in
theorem open_numsx {base : Nat} {v : Value} {d : DataW H} {p : List MemPlace} (hv : ∀ j : Nat, j = 0 → Value.okWide Tryz.prog W .any base 52 v) (h : DataW.Trod enc Tryz.prog W 0 (fun _ => true) true 52 v d p) :
    ∃ (a : Option Addr) (l : List Int) (cap : Nat), v = .slice a l.length cap ∧ l.length ≤ maxLen ∧ IntsX W a l := by
  obtain ⟨a0, len0, cap0, rfl⟩ := okWide_slice Tryz.underlying52 (hv 0 rfl)
  obtain ⟨fuel, hf⟩ := h
  rcases open_ints Tryz.underlying52 Tryz.underlying3 (by kernel_rfl) hf with ⟨hc, hx⟩ | ⟨a, len, cap, zs, hc, _, hl, hcap, hz, hx, hi, _⟩
  · simp [Value.cells] at hc
    obtain ⟨rfl, rfl, rfl⟩ := hc
    exact ⟨none, [], 0, rfl, by simp, fun h => (h rfl).elim⟩
  · simp [Value.cells] at hc
    obtain ⟨rfl, rfl, rfl⟩ := hc
    simp only [if_true] at hz
    have hl2 : (zs.take len0).length = len0 := by simp; omega
    refine ⟨some a, zs.take len0, cap0, by rw [hl2], by omega, fun hne => ?_⟩
    have h0 : 0 < len0 := by rw [← hl2]; exact List.length_pos_iff.2 hne
    have hs := spot_of a W _ (hi 0 (by omega))
    refine ⟨a.block, a.off, by rw [← hs], fun k hk => ?_⟩
    have := add_cell a _ _ _ W _ hs (hi k (by omega))
    rw [this]
    have hk' : k < len0 := by omega
    simp [it, List.getD, hk']
end
end Go.Proofs.YthdenmbfeanioaaGreatDoor
