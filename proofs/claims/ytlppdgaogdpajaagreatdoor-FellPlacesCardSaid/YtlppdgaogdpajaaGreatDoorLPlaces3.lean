/- This text is a part of the proof: BesideLaw, RefWaysLaw, AppendL, RefWays, EqualI, SizedOf, PFPlaces. -/
import Derived.Test.YtlppdgaogdpajaaGreatDoorLPlaces2
import Derived.Deep.Upon
namespace Go.Proofs.YtlppdgaogdpajaaGreatDoor
theorem eq_of_lt : ∀ {l r : List Int}, l.Pairwise (· < ·) → r.Pairwise (· < ·) → (∀ x, x ∈ l ↔ x ∈ r) → l = r
 | [], [], _, _, _ => rfl
 | [], y :: r, _, _, h => absurd ((h y).2 (by simp)) (by simp)
 | x :: l, [], _, _, h => absurd ((h x).1 (by simp)) (by simp)
 | x :: l, y :: r, hl, hr, h => by
  obtain ⟨h1, h2⟩ := List.pairwise_cons.1 hl
  obtain ⟨h3, h4⟩ := List.pairwise_cons.1 hr
  have e : x = y := by
   rcases List.mem_cons.1 ((h x).1 (by simp)) with e | e
   ·exact e
   ·rcases List.mem_cons.1 ((h y).2 (by simp)) with e2 | e2
    ·exact e2.symm
    ·have := h3 x e
     have := h1 y e2
     omega
  subst e
  congr 1
  refine eq_of_lt h2 h4 fun z => ?_
  constructor
  ·intro hz
   rcases List.mem_cons.1 ((h z).1 (List.mem_cons_of_mem _ hz)) with e | e
   ·have := h1 z hz
    omega
   ·exact e
  ·intro hz
   rcases List.mem_cons.1 ((h z).2 (List.mem_cons_of_mem _ hz)) with e | e
   ·have := h3 z hz
    omega
   ·exact e
theorem compact_lt {l : List Int} (h : l.Pairwise (· ≤ ·)) : (Lib.compact l).Pairwise (· < ·) := by
 unfold Lib.compact Lib.compactUpTo
 rw [List.pairwise_map]
 have hr : ((List.range l.length).filter (Lib.keeps l.toArray)).Pairwise fun a b => a < b := List.Pairwise.filter _ List.pairwise_lt_range
 refine List.Pairwise.imp_of_mem (fun {a b} ha hb hab => ?_) hr
 obtain ⟨hb1, hk⟩ := List.mem_filter.1 hb
 have hbl := List.mem_range.1 hb1
 have g : ∀ i (hi : i < l.length), l.toArray[i]! = l[i] := fun i hi => by simp [hi]
 have hle : ∀ i j (hij : i ≤ j) (hj : j < l.length), l[i]'(by omega) ≤ l[j] := fun i j hij hj => by
  rcases Nat.lt_or_ge i j with h1 | h1
  ·exact List.pairwise_iff_getElem.1 h i j (by omega) hj h1
  ·obtain rfl : i = j := by omega
   exact Int.le_refl _
 rw [g a (by omega), g b hbl]
 have h1 := hle a (b - 1) (by omega) (by omega)
 have h2 := hle (b - 1) b (by omega) hbl
 have h3 : l[b - 1]'(by omega) ≠ l[b] := by
  unfold Lib.keeps at hk
  rw [g b hbl, g (b - 1) (by omega)] at hk
  simp at hk
  intro e
  rcases hk with hk | hk
  ·omega
  ·exact hk e.symm
 omega
theorem setI_lt (l : List Int) : (setI l).Pairwise (· < ·) := by
 unfold setI sortI
 refine compact_lt ?_
 have := List.pairwise_mergeSort (le := leI) (fun a b c h1 h2 => by unfold leI at *; simp at *; omega) (fun a b => by unfold leI; simp; omega) l
 exact this.imp fun h => by unfold leI at h; simpa using h
theorem join_iff {f : Fe} {a b : Int} : joinD f a b = true ↔ joinB f a b := by
 unfold joinD joinB joinG
 rw [List.any_eq_true]
 constructor
 ·rintro ⟨g, hg, h⟩
  simp at h
  refine ⟨g, hg, ?_⟩
  rcases h with ⟨h1, h2⟩ | ⟨h1, h2⟩
  ·exact .inl ⟨h1, h2⟩
  ·exact .inr ⟨h2, h1⟩
 ·rintro ⟨g, hg, h⟩
  refine ⟨g, hg, ?_⟩
  simp
  rcases h with ⟨h1, h2⟩ | ⟨h1, h2⟩
  ·exact .inl ⟨h1, h2⟩
  ·exact .inr ⟨h2, h1⟩
theorem beside_ref {f : Fe} (h : checkE f = 0) (p : Int) : besideV f p = rbesK f p f.places.length := by
 refine eq_of_lt (setI_lt _) ?_ fun q => ?_
 ·unfold rbesK
  rw [List.pairwise_map]
  exact (List.Pairwise.filter _ List.pairwise_lt_range).imp fun h => by omega
 ·rw [mem_beside h]
  unfold rbesK
  constructor
  ·intro hj
   have hin := join_in h hj
   refine List.mem_map.2 ⟨q.toNat, List.mem_filter.2 ⟨List.mem_range.2 (by omega), ?_⟩, by omega⟩
   rw [show ((q.toNat : Nat) : Int) = q by omega]
   exact join_iff.2 hj
  ·intro hq
   obtain ⟨i, hi, rfl⟩ := List.mem_map.1 hq
   exact join_iff.1 (List.mem_filter.1 hi).2
theorem bes_eq (f : Fe) (p : Int) : besV f p = rbesV f p := by
 unfold besV rbesV
 by_cases h : checkE f = 0
 ·rw [if_neg (c := checkE f ≠ 0) (fun k => k h)]
  by_cases hp : p < 0 ∨ (f.places.length : Int) ≤ p
  ·have ha : askedE f [p] = 50 := by
    unfold askedE
    rw [if_neg (fun k => k h), if_pos]
    have : rg 0 ((f.places.length : Int) - 1) p = false := rg_no (by omega)
    simp [offB, this]
   rw [if_pos hp, ha, if_pos (by decide)]
  ·have ha : askedE f [p] = 0 := by
    unfold askedE
    rw [if_neg (fun k => k h), if_neg]
    have : rg 0 ((f.places.length : Int) - 1) p = true := rg_iff.2 (by omega)
    simp [offB, this]
   rw [if_neg hp, ha, if_neg (by decide), beside_ref h]
 ·have ha : askedE f [p] = checkE f := by unfold askedE; rw [if_pos h]
  rw [if_pos (c := checkE f ≠ 0) h, ha, if_pos h]
end Go.Proofs.YtlppdgaogdpajaaGreatDoor
namespace Go.Proofs.YtlppdgaogdpajaaGreatDoor
def nextB (f : Fe) (R : Int → Bool) (a : Nat) (b : Int) : Bool := R b || (List.range a).any fun (x : Nat) => R x && joinD f x b
theorem nextB_0 (f : Fe) (R : Int → Bool) (b : Int) : nextB f R 0 b = R b := by
 unfold nextB
 simp
theorem nextB_step (f : Fe) (R : Int → Bool) (a : Nat) (b : Int) : nextB f R (a + 1) b = (nextB f R a b || (R a && joinD f a b)) := by
 unfold nextB
 rw [List.range_succ, List.any_append, List.any_cons, List.any_nil, Bool.or_false, Bool.or_assoc]
def reachR (f : Fe) (s : Int) : Nat → Int → Bool
 | 0, i => i == s
 | n + 1, i => nextB f (reachR f s n) f.places.length i
def rwaysFrom (f : Fe) (s t : Int) : Nat → Nat → Int × Int
 | 0, _ => (0, 5)
 | k + 1, n => if reachR f s n t = true then ((n : Int), 0) else rwaysFrom f s t k (n + 1)
def rwaysV (f : Fe) (s t : Int) : Int × Int :=
 if checkE f ≠ 0 then (0, checkE f)
 else if (rg 0 ((f.places.length : Int) - 1) s && rg 0 ((f.places.length : Int) - 1) t) = false then (0, 50)
 else rwaysFrom f s t f.places.length 0
theorem reachR_iff {f : Fe} (hc : checkE f = 0) {s : Int} (hs : 0 ≤ s ∧ s ≤ (f.places.length : Int) - 1) : ∀ (n : Nat) (i : Int), reachR f s n i = true ↔ ∃ j, j ≤ n ∧ Path f s j i := by
 intro n
 induction n with
 | zero =>
  intro i
  unfold reachR
  rw [beq_iff_eq]
  constructor
  ·intro h; exact ⟨0, Nat.le_refl _, h⟩
  ·rintro ⟨j, hj, hp⟩
   obtain rfl : j = 0 := by omega
   exact hp
 | succ n ih =>
  intro i
  unfold reachR nextB
  rw [Bool.or_eq_true, List.any_eq_true, ih i]
  constructor
  ·rintro (⟨j, hj, hp⟩ | ⟨x, hx, h⟩)
   ·exact ⟨j, by omega, hp⟩
   ·rw [Bool.and_eq_true, ih, join_iff] at h
    obtain ⟨⟨j, hj, hp⟩, hq⟩ := h
    exact ⟨j + 1, by omega, _, hp, hq⟩
  ·rintro ⟨j, hj, hp⟩
   by_cases e : j ≤ n
   ·exact .inl ⟨j, e, hp⟩
   ·obtain rfl : j = n + 1 := by omega
    obtain ⟨p, hp, hq⟩ := hp
    have hin := path_in hc hs hp
    refine .inr ⟨p.toNat, List.mem_range.2 (by omega), ?_⟩
    rw [Int.toNat_of_nonneg hin.1, Bool.and_eq_true, ih, join_iff]
    exact ⟨⟨n, Nat.le_refl _, hp⟩, hq⟩
theorem rways_none {f : Fe} {s t : Int} (h : ∀ n, reachR f s n t = false) : ∀ k n, rwaysFrom f s t k n = (0, 5) := by
 intro k
 induction k with
 | zero => intro n; rfl
 | succ k ih =>
  intro n
  unfold rwaysFrom
  rw [if_neg (by rw [h n]; exact Bool.false_ne_true)]
  exact ih _
theorem rways_at {f : Fe} {s t : Int} {d : Nat} (h : reachR f s d t = true) (hb : ∀ n, n < d → reachR f s n t = false) : ∀ k n, n ≤ d → d < n + k → rwaysFrom f s t k n = ((d : Int), 0) := by
 intro k
 induction k with
 | zero => intro n h1 h2; omega
 | succ k ih =>
  intro n h1 h2
  unfold rwaysFrom
  by_cases e : n = d
  ·subst e
   rw [if_pos h]
  ·rw [if_neg (by rw [hb n (by omega)]; exact Bool.false_ne_true)]
   exact ih _ (by omega) (by omega)
theorem rways_eq (f : Fe) (s t : Int) : rwaysV f s t = waysV f s t := by
 by_cases hc : checkE f = 0
 ·by_cases hr : (rg 0 ((f.places.length : Int) - 1) s && rg 0 ((f.places.length : Int) - 1) t) = true
  ·have hr2 := Bool.and_eq_true_iff.1 hr
   have ha : askedE f [s, t] = 0 := by
    unfold askedE
    rw [if_neg (by omega), if_neg]
    simp [offB, hr2.1, hr2.2]
   have hs := rg_iff.1 hr2.1
   have e1 : rwaysV f s t = rwaysFrom f s t f.places.length 0 := by
    unfold rwaysV
    rw [if_neg (by omega), if_neg (by rw [hr]; decide)]
   rw [e1]
   by_cases h : (waysV f s t).2 = 0
   ·obtain ⟨_, k, hk, hd⟩ := ways_some h
    have hlt := dist_lt hc hs hd
    rw [rways_at (d := k) ((reachR_iff hc hs k t).2 ⟨k, Nat.le_refl _, hd.1⟩) (fun n hn => by
     rw [Bool.eq_false_iff]
     intro e
     obtain ⟨j, hj, hp⟩ := (reachR_iff hc hs n t).1 e
     have := hd.2 j hp
     omega) f.places.length 0 (Nat.zero_le _) (by omega)]
    exact Prod.ext hk.symm h.symm
   ·obtain ⟨e2, hp⟩ := ways_five ha h
    rw [e2]
    refine rways_none (fun n => ?_) _ _
    rw [Bool.eq_false_iff]
    intro e
    obtain ⟨j, _, hq⟩ := (reachR_iff hc hs n t).1 e
    exact hp j hq
  ·have hr2 : (rg 0 ((f.places.length : Int) - 1) s && rg 0 ((f.places.length : Int) - 1) t) = false := by simpa using hr
   have ha : askedE f [s, t] = 50 := by
    unfold askedE
    rw [if_neg (by omega), if_pos]
    simp only [List.any_cons, List.any_nil, Bool.or_false, offB]
    rw [← Bool.not_and, hr2]
    rfl
   unfold rwaysV waysV
   rw [if_neg (by omega), if_pos hr2, ha, if_pos (by decide)]
 ·have ha : askedE f [s, t] = checkE f := if_pos hc
  unfold rwaysV waysV
  rw [if_pos hc, ha, if_pos hc]
def boolC (x : Bool) : List Value := [.bool x]
theorem boolC_len (x : Bool) : (boolC x).length = 1 := rfl
theorem boolC_one (x : Bool) : ∀ u ∈ boolC x, u.oneCell' = true := by
 intro u hu
 simp only [boolC, List.mem_cons, List.not_mem_nil, or_false] at hu
 subst hu
 rfl
def rowL (P : Nat) (F : Nat → Bool) : List Bool := (List.range P).map F
theorem rowL_len (P : Nat) (F : Nat → Bool) : (rowL P F).length = P := by simp [rowL]
theorem rowL_at {P : Nat} {F : Nat → Bool} {i : Nat} (h : i < P) : (rowL P F)[i]? = some (F i) := by simp [rowL, h]
def mixB (F G : Nat → Bool) (b i : Nat) : Bool := if i < b then G i else F i
theorem mix_0 (P : Nat) (F G : Nat → Bool) : rowL P (mixB F G 0) = rowL P F := by
 unfold rowL
 exact List.map_congr_left fun i _ => if_neg (by omega)
theorem mix_all (P : Nat) (F G : Nat → Bool) : rowL P (mixB F G P) = rowL P G := by
 unfold rowL
 exact List.map_congr_left fun i hi => if_pos (List.mem_range.1 hi)
theorem mix_set (P : Nat) (F G : Nat → Bool) (b : Nat) : (rowL P (mixB F G b)).set b (G b) = rowL P (mixB F G (b + 1)) := by
 apply List.ext_getElem?
 intro i
 rw [List.getElem?_set]
 by_cases hi : i < P
 ·rw [rowL_at (F := mixB F G (b + 1)) hi]
  by_cases e : b = i
  ·subst e
   rw [if_pos rfl, rowL_len, if_pos hi]
   unfold mixB
   rw [if_pos (by omega)]
  ·rw [if_neg e, rowL_at hi]
   unfold mixB
   by_cases h : i < b
   ·rw [if_pos h, if_pos (by omega)]
   ·rw [if_neg h, if_neg (by omega)]
 ·have h1 : (rowL P (mixB F G (b + 1)))[i]? = none := List.getElem?_eq_none (by rw [rowL_len]; omega)
  have h2 : (rowL P (mixB F G b))[i]? = none := List.getElem?_eq_none (by rw [rowL_len]; omega)
  rw [h1, h2, rowL_len]
  by_cases e : b = i
  ·rw [if_pos e, if_neg (by omega)]
  ·rw [if_neg e]
end Go.Proofs.YtlppdgaogdpajaaGreatDoor
namespace Go.Proofs.YtlppdgaogdpajaaGreatDoor
open Go Go.RowKit Go.Shelf
section
variable {P : Program}
theorem run_append_lst (w : World) (base : Nat) (t ty e : TypeId) (i : TypeInfo) (z : Value) (size bytes : Nat) (ht : P.underlying t = some (.slice e)) (hi : P.info? e = some i) (hz : i.zero = some z)
  (hsize : i.size = size) (hby : i.bytes = bytes) (hzs : z.cells.size = size) (hsz : 0 < size) {α : Type} {enc : α → List Value} (hn : ∀ x, (enc x).length = size) (h1 : ∀ x, ∀ u ∈ enc x, u.oneCell' = true)
  (v : Value) (n : Nat) (xs : List Value) (hown : w.ownsRow base e size v n xs) (a : Option Addr) (l : List α) (m c : Nat) (hm : l.length = m) (hl : Lst enc size w a l)
  (h63 : n + m ≤ maxLen) (hbytes : (n + m) * bytes ≤ 140737488355328) (hbase : base ≤ w.heap.size) :
  ∃ v' w', (Builtin.append_ #[t, t] ty #[v, .slice a m c]).run P w = .ok v' w' ∧ w'.ownsRow base e size v' (n + m) (xs ++ cellsL enc l) ∧ w.grownBy w' v.ownBlock := by
 subst hm
 cases a with
 | some ad =>
  obtain ⟨v', w', hr, h2, h3, _, _⟩ := run_append_own_at (P := P) w base t ty e i z size bytes ht hi hz hsize hby hzs hsz v n xs hown ad l.length c (cellsL enc l) (cellsL_len hn l) (hl.cells' hn hsz)
   (fun u hu => by obtain ⟨x, _, hx⟩ := List.mem_flatMap.1 hu; exact h1 x u hx) h63 hbytes hbase
  exact ⟨v', w', hr, h2, h3⟩
 | none =>
  have hnil : l = [] := by
   by_cases h : l = []
   ·exact h
   ·obtain ⟨b, o, h, _⟩ := hl.2 h; cases h
  subst hnil
  refine ⟨v, w, ?_, by rw [show cellsL enc ([] : List α) = [] from rfl, List.append_nil]; exact hown, World.grownBy.refl _ _⟩
  rcases hown.2 with ⟨rfl, _⟩ | ⟨g, cap, cur, rfl, _, _, hle, _⟩
  ·exact run_append_nothing w t t ty e i ht hi none 0 0 (Nat.le_refl _) _ (Src.ofNil w ht c)
  ·exact run_append_nothing w t t ty e i ht hi _ n cap hle _ (Src.ofNil w ht c)
theorem wpList_append_lst {w : World} {ops : Array Oper} {rest : List Oper} {o : Oper} {a : Act} {Q : Exit → Act → World → Prop} (hgd : o.guard = none) (s x : Operand) (t : TypeId)
  (ho : o.op = .call { callee := .builtin .append, args := #[s, x], argTypes := #[t, t] })
  (base : Nat) (e : TypeId) (i : TypeInfo) (z : Value) (size bytes : Nat) (ht : P.underlying t = some (.slice e)) (hi : P.info? e = some i) (hz : i.zero = some z)
  (hsize : i.size = size) (hby : i.bytes = bytes) (hzs : z.cells.size = size) (hsz : 0 < size) {α : Type} {enc : α → List Value} (hn : ∀ x, (enc x).length = size) (h1 : ∀ x, ∀ u ∈ enc x, u.oneCell' = true)
  (v : Value) (n : Nat) (xs : List Value) (hs : a.eval s = v) (hown : w.ownsRow base e size v n xs)
  (ad : Option Addr) (l : List α) (m c : Nat) (hm : l.length = m) (hx : a.eval x = .slice ad m c) (hl : Lst enc size w ad l)
  (h63 : n + m ≤ maxLen) (hbytes : (n + m) * bytes ≤ 140737488355328) (hbase : base ≤ w.heap.size)
  (h : ∀ v' w', w'.ownsRow base e size v' (n + m) (xs ++ cellsL enc l) → w.grownBy w' v.ownBlock → wpList P ops Q rest (a.put o.dst v') w') : wpList P ops Q (o :: rest) a w := by
 refine wpList_plain hgd fun K hK => ?_
 obtain ⟨v', w', hr, h2, h3⟩ := run_append_lst (P := P) w base t o.type e i z size bytes ht hi hz hsize hby hzs hsz hn h1 v n xs hown ad l m c hm hl h63 hbytes hbase
 unfold Oper.wp execOp
 simp only [ho, resolve, invoke, builtin, Sem.run_bind, Sem.run_pure, Result.andThen_ok, List.map_toArray, List.map_cons, List.map_nil, hs, hx, hr]
 exact hK _ _ (h v' w' h2 h3)
end
theorem own_lit0 (w : World) (base : Nat) (e : TypeId) (size : Nat) (hb : base ≤ w.heap.size) : (w.alloc (.cells #[] e)).ownsRow base e size (.slice (some ⟨w.heap.size, 0, none⟩) 0 0) 0 [] :=
 World.ownsRow_made w #[] 0 hb (by unfold maxLen; omega) (by simp)
end Go.Proofs.YtlppdgaogdpajaaGreatDoor
namespace Go.Proofs.YtlppdgaogdpajaaGreatDoor
open Go.RowKit Go.Shelf
attribute [local go_sem] Oper.semAt_some
theorem bool_info : (Tryz.prog.info? 4).map (fun i => (i.zero, i.size, i.bytes)) = some (some (.bool false), 1, 1) := by kernel_rfl
theorem cellsL_bool (l : List Bool) : cellsL boolC l = l.map fun b => .bool b := by
 unfold cellsL boolC
 induction l with
 | nil => rfl
 | cons x r ih => rw [List.flatMap_cons, List.map_cons, ih]; rfl
abbrev RowB (w : World) (base G P cap : Nat) (F : Nat → Bool) : Prop := w.ownsRow base 4 1 (.slice (some ⟨G, 0, none⟩) P cap) P (cellsL boolC (rowL P F))
theorem RowB.cell {w : World} {base G P cap : Nat} {F : Nat → Bool} (h : RowB w base G P cap F) {j : Nat} (hj : j < P) : w.cell? ⟨G, j, none⟩ = some (.bool (F j)) := by
 rw [h.cellAt j (by omega), cellsL_bool, List.getElem?_map, rowL_at hj]
 rfl
theorem mix_set2 (P : Nat) (F G : Nat → Bool) (b : Nat) (u : Bool) (h : G b = u) : (rowL P (mixB F G b)).set b u = rowL P (mixB F G (b + 1)) := by
 rw [← h]
 exact mix_set P F G b
theorem RowB.lst {w : World} {base G P cap : Nat} {F : Nat → Bool} (h : RowB w base G P cap F) (hP : P ≤ 1000000000000) : Lst boolC 1 w (some ⟨G, 0, none⟩) (rowL P F) := by
 have h2 : w.ownsRow base 4 1 (.slice (some ⟨G, 0, none⟩) P cap) (rowL P F).length (cellsL boolC (rowL P F)) := by rw [rowL_len]; exact h
 obtain ⟨b, c, e, _, _, hl, _⟩ := Lst.own boolC_len h2
 injection e with e1 _ _
 subst e1
 exact hl (by rw [rowL_len]; exact hP)
theorem RowB.set {w : World} {base G P cap : Nat} {F F' : Nat → Bool} (h : RowB w base G P cap F) {j : Nat} {u : Bool} (he : (rowL P F).set j u = rowL P F') : RowB (w.setCell ⟨G, j, none⟩ (.bool u)) base G P cap F' := by
 have h1 := (h.stored j (.bool u)).1
 rw [cellsL_bool, ← List.map_set, he, ← cellsL_bool] at h1
 exact h1
theorem RowB.below_set {w W : World} {G j : Nat} {u : Value} (h : Below w.heap.size w W) (hG : w.heap.size ≤ G) : Below w.heap.size w (W.setCell ⟨G, j, none⟩ u) :=
 ((Kept.of_below (O := fun q => q = G) h).setCell (.inl rfl) _).below (Nat.le_refl _) (fun q e => by omega)
theorem row_made (P : Nat) : cellsL boolC (rowL P fun _ => false) = List.replicate P (.bool false) := by
 rw [cellsL_bool]
 unfold rowL
 rw [List.map_map]
 apply List.ext_getElem?
 intro i
 rw [List.getElem?_map, List.getElem?_replicate]
 by_cases h : i < P
 ·rw [if_pos h, List.getElem?_range h]; rfl
 ·rw [if_neg h, List.getElem?_eq_none (by simp; omega)]; rfl
theorem row_start (f : Fe) (P j : Nat) : (rowL P fun _ => false).set j true = rowL P fun i => reachR f (j : Int) 0 (i : Int) := by
 apply List.ext_getElem?
 intro i
 rw [List.getElem?_set]
 by_cases h : i < P
 ·rw [rowL_at (F := fun i => reachR f (j : Int) 0 (i : Int)) h]
  by_cases e : j = i
  ·subst e
   rw [if_pos rfl, rowL_len, if_pos h]
   simp [reachR]
  ·rw [if_neg e, rowL_at h]
   have : ((i : Int) == (j : Int)) = false := beq_eq_false_iff_ne.2 (by omega)
   unfold reachR
   rw [this]
 ·have h1 : (rowL P fun i => reachR f (j : Int) 0 (i : Int))[i]? = none := List.getElem?_eq_none (by rw [rowL_len]; omega)
  have h2 : (rowL P fun _ => false)[i]? = none := List.getElem?_eq_none (by rw [rowL_len]; omega)
  rw [h1, h2, rowL_len]
  by_cases e : j = i
  ·rw [if_pos e, if_neg (by omega)]
  ·rw [if_neg e]
theorem rways_step {f : Fe} {s t : Int} {P n : Nat} (h : n < P) : rwaysFrom f s t (P - n) n = if reachR f s n t = true then ((n : Int), 0) else rwaysFrom f s t (P - (n + 1)) (n + 1) := by
 obtain ⟨k, hk⟩ : ∃ k, P - n = k + 1 := ⟨P - n - 1, by omega⟩
 rw [hk, show P - (n + 1) = k by omega]
 rfl
set_option maxRecDepth 100000 in
set_option maxHeartbeats 4000000 in
theorem c_rWays_no (m : Fm) (s t : Int) (w : World) (hm : m.In w) (hs : Sized m.f) (h : checkE m.f ≠ 0) : Calls Tryz.prog 69 #[m.v, .int .i64 s, .int .i64 t] w fun e w' => e = .returned (.tuple #[.int .i64 0, .int .i64 (checkE m.f)]) ∧ Below w.heap.size w w' := by
 have hC := fun W (hb : Below w.heap.size w W) => c_rCheck m W (hm.later hb) hs
 generalize checkE m.f = E at *
 have he : (E != 0) = true := bne_iff_ne.2 h
 have HC := Lib.hid hC
 clear hC h hm hs
 go_enter Tryz.func69, Tryz.ntmps69
 go_upto_region 1 with (fail)
 go_name_world W1 hW1
 have hb0 : Below w.heap.size w W1 := by subst hW1; go_grown
 obtain ⟨q0, q1, q2, q3⟩ := (show QB m W1 w.heap.size from by subst hW1; refine ⟨?_, ?_, ?_, ?_⟩ <;> go_simp)
 clear hW1 
 go_wp2_with fail
 refine (HC.out _ hb0).mono ?_
 rintro E W2 ⟨rfl, hB⟩
 have hc := (bcell hB).1
 have zz := cy4 hc q0 q1 q2 q3
 clear q0 q1 q2 q3
 obtain ⟨q0, q1, q2, q3⟩ := zz
 replace hb0 := bthen hb0 hB
 clear hc hB
 go_wp2
 go_ret2
 exact ⟨rfl, hb0⟩
set_option maxRecDepth 100000 in
set_option maxHeartbeats 4000000 in
theorem c_rWays_a (m : Fm) (s t : Int) (w : World) (hm : m.In w) (hs : Sized m.f) (h : checkE m.f = 0) (h2 : rg 0 ((m.f.places.length : Int) - 1) s = false) : Calls Tryz.prog 69 #[m.v, .int .i64 s, .int .i64 t] w fun e w' => e = .returned (.tuple #[.int .i64 0, .int .i64 50]) ∧ Below w.heap.size w w' := by
 have hC := fun W (hb : Below w.heap.size w W) => c_rCheck m W (hm.later hb) hs
 rw [h] at hC
 have hp8 := (right_of h).p8
 have HC := Lib.hid hC
 have hI2 := fun W => c_rWithin s 0 ((m.f.places.length : Int) - 1) W
 rw [h2] at hI2
 have HI2 := Lib.hid hI2
 clear hC hI2 h h2 hm hs
 go_enter Tryz.func69, Tryz.ntmps69
 go_upto_region 1 with (fail)
 go_name_world W1 hW1
 have hb0 : Below w.heap.size w W1 := by subst hW1; go_grown
 obtain ⟨q0, q1, q2, q3⟩ := (show QB m W1 w.heap.size from by subst hW1; refine ⟨?_, ?_, ?_, ?_⟩ <;> go_simp)
 clear hW1 
 go_wp2_with fail
 refine (HC.out _ hb0).mono ?_
 rintro E W2 ⟨rfl, hB⟩
 have hc := (bcell hB).1
 have zz := cy4 hc q0 q1 q2 q3
 clear q0 q1 q2 q3
 obtain ⟨q0, q1, q2, q3⟩ := zz
 replace hb0 := bthen hb0 hB
 clear hc hB
 go_wp2_with fail
 refine (HI2.out _).mono ?_
 rintro E W3 ⟨rfl, hB⟩
 have hc := (bcell hB).1
 have zz := cy4 hc q0 q1 q2 q3
 clear q0 q1 q2 q3
 obtain ⟨q0, q1, q2, q3⟩ := zz
 replace hb0 := bthen hb0 hB
 clear hc hB
 go_wp2
 go_ret2
 exact ⟨rfl, hb0⟩
set_option maxRecDepth 100000 in
set_option maxHeartbeats 4000000 in
theorem c_rWays_b (m : Fm) (s t : Int) (w : World) (hm : m.In w) (hs : Sized m.f) (h : checkE m.f = 0) (h2 : rg 0 ((m.f.places.length : Int) - 1) s = true) (h3 : rg 0 ((m.f.places.length : Int) - 1) t = false) : Calls Tryz.prog 69 #[m.v, .int .i64 s, .int .i64 t] w fun e w' => e = .returned (.tuple #[.int .i64 0, .int .i64 50]) ∧ Below w.heap.size w w' := by
 have hC := fun W (hb : Below w.heap.size w W) => c_rCheck m W (hm.later hb) hs
 rw [h] at hC
 have hp8 := (right_of h).p8
 have HC := Lib.hid hC
 have hI2 := fun W => c_rWithin s 0 ((m.f.places.length : Int) - 1) W
 rw [h2] at hI2
 have HI2 := Lib.hid hI2
 have hI3 := fun W => c_rWithin t 0 ((m.f.places.length : Int) - 1) W
 rw [h3] at hI3
 have HI3 := Lib.hid hI3
 clear hC hI2 hI3 h h2 h3 hm hs
 go_enter Tryz.func69, Tryz.ntmps69
 go_upto_region 1 with (fail)
 go_name_world W1 hW1
 have hb0 : Below w.heap.size w W1 := by subst hW1; go_grown
 obtain ⟨q0, q1, q2, q3⟩ := (show QB m W1 w.heap.size from by subst hW1; refine ⟨?_, ?_, ?_, ?_⟩ <;> go_simp)
 clear hW1 
 go_wp2_with fail
 refine (HC.out _ hb0).mono ?_
 rintro E W2 ⟨rfl, hB⟩
 have hc := (bcell hB).1
 have zz := cy4 hc q0 q1 q2 q3
 clear q0 q1 q2 q3
 obtain ⟨q0, q1, q2, q3⟩ := zz
 replace hb0 := bthen hb0 hB
 clear hc hB
 go_wp2_with fail
 refine (HI2.out _).mono ?_
 rintro E W3 ⟨rfl, hB⟩
 have hc := (bcell hB).1
 have zz := cy4 hc q0 q1 q2 q3
 clear q0 q1 q2 q3
 obtain ⟨q0, q1, q2, q3⟩ := zz
 replace hb0 := bthen hb0 hB
 clear hc hB
 go_wp2_with fail
 refine (HI3.out _).mono ?_
 rintro E W4 ⟨rfl, hB⟩
 have hc := (bcell hB).1
 have zz := cy4 hc q0 q1 q2 q3
 clear q0 q1 q2 q3
 obtain ⟨q0, q1, q2, q3⟩ := zz
 replace hb0 := bthen hb0 hB
 clear hc hB
 go_wp2
 go_ret2
 exact ⟨rfl, hb0⟩
set_option maxRecDepth 100000 in
set_option maxHeartbeats 8000000 in
theorem c_rWays_ok (m : Fm) (s t : Nat) (w : World) (hm : m.In w) (hs : Sized m.f) (h : checkE m.f = 0) (h2 : rg 0 ((m.f.places.length : Int) - 1) (s : Int) = true) (h3 : rg 0 ((m.f.places.length : Int) - 1) (t : Int) = true) : Calls Tryz.prog 69 #[m.v, .int .i64 (s : Int), .int .i64 (t : Int)] w fun e w' => e = .returned (pairV (rwaysFrom m.f (s : Int) (t : Int) m.f.places.length 0)) ∧ Below w.heap.size w w' := by
 have hC := fun W (hb : Below w.heap.size w W) => c_rCheck m W (hm.later hb) hs
 rw [h] at hC
 have hp8 := (right_of h).p8
 have HC := Lib.hid hC
 have hsP : s < m.f.places.length := by have := rg_iff.1 h2; omega
 have htP : t < m.f.places.length := by have := rg_iff.1 h3; omega
 have hI2 := fun W => c_rWithin (s : Int) 0 ((m.f.places.length : Int) - 1) W
 rw [h2] at hI2
 have HI2 := Lib.hid hI2
 have hI3 := fun W => c_rWithin (t : Int) 0 ((m.f.places.length : Int) - 1) W
 rw [h3] at hI3
 have HI3 := Lib.hid hI3
 have hJ := fun (a b : Int) W (hb : Below w.heap.size w W) => c_rJoined m a b W (hm.later hb)
 have HJ := Lib.hid hJ
 obtain ⟨i0, hi0, hz0, hz1, hz2⟩ := info_parts bool_info
 clear hC hI2 hI3 hJ h h2 h3 hm hs
 go_enter Tryz.func69, Tryz.ntmps69
 go_upto_region 1 with (fail)
 go_name_world W1 hW1
 have hb0 : Below w.heap.size w W1 := by subst hW1; go_grown
 obtain ⟨q0, q1, q2, q3⟩ := (show QB m W1 w.heap.size from by subst hW1; refine ⟨?_, ?_, ?_, ?_⟩ <;> go_simp)
 clear hW1 
 go_wp2_with fail
 refine (HC.out _ hb0).mono ?_
 rintro E W2 ⟨rfl, hB⟩
 have hc := (bcell hB).1
 have zz := cy4 hc q0 q1 q2 q3
 clear q0 q1 q2 q3
 obtain ⟨q0, q1, q2, q3⟩ := zz
 replace hb0 := bthen hb0 hB
 clear hc hB
 go_wp2_with fail
 refine (HI2.out _).mono ?_
 rintro E W3 ⟨rfl, hB⟩
 have hc := (bcell hB).1
 have zz := cy4 hc q0 q1 q2 q3
 clear q0 q1 q2 q3
 obtain ⟨q0, q1, q2, q3⟩ := zz
 replace hb0 := bthen hb0 hB
 clear hc hB
 go_wp2_with fail
 refine (HI3.out _).mono ?_
 rintro E W4 ⟨rfl, hB⟩
 have hc := (bcell hB).1
 have zz := cy4 hc q0 q1 q2 q3
 clear q0 q1 q2 q3
 obtain ⟨q0, q1, q2, q3⟩ := zz
 replace hb0 := bthen hb0 hB
 clear hc hB
 have HQ0 := Lib.hid (show CellsAt W4 w.heap.size 0 (feC m) from cells_4 q0 q1 q2 q3)
 have HB0 := Lib.hid hb0
 go_wp2_with (at_make; refine stuckHere ?_)
 refine unHid ?_
 refine wpList_make_full _ rfl (.tmp 38) (.tmp 38) 172 rfl W4.heap.size 4 i0 _ 1 Tryz.underlying172 hi0 hz0 hz1 .i64 .i64 _ _ m.f.places.length rfl rfl rfl rfl (by rw [hz2]; omega) (by unfold maxLen; omega) (Nat.le_refl _) ?_
 intro w1 hown hgrow
 have hrow : RowB w1 W4.heap.size W4.heap.size m.f.places.length m.f.places.length (fun _ => false) := by
  rw [Nat.mul_one] at hown
  have := (toList_madeCells_one (.bool false) m.f.places.length) ▸ hown
  unfold RowB
  rw [row_made]
  exact this
 have hB := (kept_of_grown hgrow).below (Nat.le_refl _) (fun j hj => by cases hj)
 have hc := (bcell hB).1
 have y0 := hrow.cell hsP
 have fy0 : w1.frozen? ⟨W4.heap.size, s, none⟩ = false := hrow.frozenAt s
 have HR0 := Lib.hid hrow
 have HB1 := Lib.hid hB
 have hsi : ¬ (s : Int) < 0 := by omega
 have hsi2 : (s : Int) < (m.f.places.length : Int) := by omega
 obtain ⟨G0, hG0⟩ : ∃ G, W4.heap.size = G := ⟨_, rfl⟩
 have HG0 := Lib.hid hG0
 clear q0 q1 q2 q3 hb0 hown hgrow hrow hB hc
 rw [hG0] at y0 fy0 HR0 ⊢
 clear hG0
 go_wp2
 go_loopw [9, 10] (fun v9 v10 wr => ∃ n G cap : Nat, n ≤ m.f.places.length ∧ v10 = .int .i64 n ∧ v9 = .slice (some ⟨G, 0, none⟩) m.f.places.length cap ∧ RowB wr G0 G m.f.places.length cap (fun (i : Nat) => reachR m.f (s : Int) n (i : Int)) ∧ rwaysFrom m.f (s : Int) (t : Int) m.f.places.length 0 = rwaysFrom m.f (s : Int) (t : Int) (m.f.places.length - n) n ∧ Below W4.heap.size W4 wr) (fun _ v10 _ => m.f.places.length - (intOf v10).toNat)
 case atStart => exact ⟨0, G0, m.f.places.length, by omega, rfl, rfl, HR0.out.set (row_start m.f _ s), rfl, RowB.below_set HB1.out (by rw [HG0.out]; omega)⟩
 case round =>
  clear HR0 HB1 y0 fy0
  obtain ⟨n, G, cap, hn, rfl, rfl, hrow, hrw, hb⟩ := hrel
  obtain ⟨W7, hW7⟩ : ∃ x, x = wr := ⟨_, rfl⟩
  subst hW7
  have HR7 := Lib.hid hrow
  have HRW := Lib.hid hrw
  have HB7 := Lib.hid hb
  obtain ⟨q0, q1, q2, q3⟩ := fe_cells (HQ0.out.later hb)
  simp only [Nat.zero_add] at q0 q1 q2 q3
  by_cases hlt : n < m.f.places.length
  ·have hi2 : (n : Int) < (m.f.places.length : Int) := by omega
   have hst := rways_step (f := m.f) (s := (s : Int)) (t := (t : Int)) hlt
   have y0 := hrow.cell htP
   have hti : ¬ (t : Int) < 0 := by omega
   have hti2 : (t : Int) < (m.f.places.length : Int) := by omega
   try dsimp only at y0
   obtain ⟨d, hd⟩ : ∃ d, reachR m.f (s : Int) n (t : Int) = d := ⟨_, rfl⟩
   rw [hd] at y0 hst
   have HST := Lib.hid hst
   clear hrow hrw hst hd
   cases d
   case true =>
    go_wp2
    go_ret2
    have e1 := HRW.out.trans (HST.out.trans (if_pos trivial))
    exact ⟨by rw [e1]; rfl, bthen HB0.out HB7.out⟩
   case false =>
    have hGlt := cell_lt y0
    go_wp2_with (at_builtin; refine stuckHere ?_)
    refine unHid ?_
    have hlst3 := RowB.lst HR7.out (by omega)
    refine wpList_append_lst rfl (.tmp 55) (.tmp 56) 172 rfl W7.heap.size 4 i0 _ 1 1 Tryz.underlying172 hi0 hz0 hz1 hz2 rfl (by decide) boolC_len boolC_one _ 0 [] rfl (own_lit0 W7 W7.heap.size 4 1 (Nat.le_refl _)) (some ⟨G, 0, none⟩) (rowL m.f.places.length fun (i : Nat) => reachR m.f (s : Int) n (i : Int)) m.f.places.length cap (rowL_len _ _) rfl (hlst3.later (by go_grown)) (by unfold maxLen; omega) (by omega) (by simp) ?_
    intro v' w1 hown hgrow
    rw [Nat.zero_add, List.nil_append] at hown
    obtain ⟨g2, cap2, rfl, hg2, hg2lt⟩ := hown.form (by omega)
    have hB : Below W7.heap.size W7 w1 := (show Below W7.heap.size W7 (W7.alloc (.cells #[] 4)) from by go_grown).trans ((kept_of_grown hgrow).below (by simp) (fun j hj => ((own_lit0 W7 W7.heap.size 4 1 (Nat.le_refl _)).lt j hj).1))
    have HO := Lib.hid hown
    have HBN := Lib.hid hB
    clear hown hgrow hB hlst3 y0 q0 q1 q2 q3
    go_wp2
    go_loopw [12] (fun v12 wi => ∃ a : Nat, a ≤ m.f.places.length ∧ v12 = .int .i64 a ∧ RowB wi W7.heap.size g2 m.f.places.length cap2 (fun (i : Nat) => nextB m.f (reachR m.f (s : Int) n) a (i : Int)) ∧ Below W7.heap.size W7 wi) (fun v12 _ => m.f.places.length - (intOf v12).toNat)
    case atStart => exact ⟨0, by omega, rfl, by rw [show (fun (i : Nat) => nextB m.f (reachR m.f (s : Int) n) 0 (i : Int)) = (fun (i : Nat) => reachR m.f (s : Int) n (i : Int)) from funext fun i => nextB_0 _ _ _]; exact HO.out, HBN.out⟩
    case round =>
     clear HO HBN
     obtain ⟨a, ha, rfl, hr2, hb2⟩ := hrel
     have HR2 := Lib.hid hr2
     have HB2 := Lib.hid hb2
     clear hr2
     by_cases hla : a < m.f.places.length
     ·have hai : ¬ (a : Int) < 0 := by omega
      have hai2 : (a : Int) < (m.f.places.length : Int) := by omega
      go_wp2
      go_loopw [13] (fun v13 wi => ∃ b : Nat, b ≤ m.f.places.length ∧ v13 = .int .i64 b ∧ RowB wi W7.heap.size g2 m.f.places.length cap2 (mixB (fun (i : Nat) => nextB m.f (reachR m.f (s : Int) n) a (i : Int)) (fun (i : Nat) => nextB m.f (reachR m.f (s : Int) n) (a + 1) (i : Int)) b) ∧ Below W7.heap.size W7 wi) (fun v13 _ => m.f.places.length - (intOf v13).toNat)
      case atStart => exact ⟨0, by omega, rfl, by unfold RowB; rw [mix_0]; exact HR2.out, HB2.out⟩
      case round =>
       clear HR2 HB2 hb2
       obtain ⟨b, hb3', rfl, hr3, hb3⟩ := hrel
       have HR3 := Lib.hid hr3
       clear hr3
       by_cases hlb : b < m.f.places.length
       ·have hbi : ¬ (b : Int) < 0 := by omega
        have hbi2 : (b : Int) < (m.f.places.length : Int) := by omega
        obtain ⟨q0, q1, q2, q3⟩ := fe_cells (HQ0.out.later (bthen HB7.out hb3))
        simp only [Nat.zero_add] at q0 q1 q2 q3
        have hJ := HJ.out a b wr (bthen HB0.out (bthen HB7.out hb3))
        have hns := nextB_step m.f (reachR m.f (s : Int) n) a (b : Int)
        have hmx : mixB (fun (i : Nat) => nextB m.f (reachR m.f (s : Int) n) a (i : Int)) (fun (i : Nat) => nextB m.f (reachR m.f (s : Int) n) (a + 1) (i : Int)) b b = nextB m.f (reachR m.f (s : Int) n) a (b : Int) := if_neg (Nat.lt_irrefl b)
        obtain ⟨d1, hd1⟩ : ∃ d, nextB m.f (reachR m.f (s : Int) n) a (b : Int) = d := ⟨_, rfl⟩
        obtain ⟨d2, hd2⟩ : ∃ d, reachR m.f (s : Int) n (a : Int) = d := ⟨_, rfl⟩
        obtain ⟨d3, hd3⟩ : ∃ d, joinD m.f a b = d := ⟨_, rfl⟩
        rw [hd1, hd2, hd3] at hns
        rw [hd1] at hmx
        rw [hd3] at hJ
        have HNS := Lib.hid hns
        have HMX := Lib.hid hmx
        have HD2 := Lib.hid hd2
        have HJJ := Lib.hid hJ
        clear hns hmx hd1 hd2 hd3 hJ
        go_wp2_with fail
        refine HJJ.out.mono ?_
        rintro E W20 ⟨rfl, hB⟩
        have hb4 := bthen hb3 hB
        have hr4 := own_below HR3.out hB
        have HR4 := Lib.hid hr4
        have y1 := RowB.cell hr4 hlb
        rw [HMX.out] at y1
        have fy1 : W20.frozen? ⟨g2, b, none⟩ = false := World.ownsRow.frozenAt hr4 b
        have y2 := RowB.cell (own_below HR7.out hb4) hla
        try dsimp only at y2
        rw [HD2.out] at y2
        have HB4 := Lib.hid hb4
        clear hB hb3 hb4 hr4 q0 q1 q2 q3 HR3 HMX HD2 HJJ
        cases d1 <;> cases d2 <;> cases d3
        all_goals
         go_wp2
         go_roundw
         case rel => exact ⟨b + 1, by omega, by go_num, RowB.set HR4.out (mix_set2 _ _ _ _ _ HNS.out), RowB.below_set HB4.out hg2⟩
         case measure => simp [intOf]; omega
       ·obtain rfl : b = m.f.places.length := by omega
        obtain ⟨q0, q1, q2, q3⟩ := fe_cells (HQ0.out.later (bthen HB7.out hb3))
        simp only [Nat.zero_add] at q0 q1 q2 q3
        have hi4 : ¬ (m.f.places.length : Int) < (m.f.places.length : Int) := by omega
        have HB3 := Lib.hid hb3
        clear q0 q1 q2 q3 hb3
        go_wp2
        go_roundw
        case rel => exact ⟨a + 1, by omega, by go_num, by have := HR3.out; unfold RowB at this; rw [mix_all] at this; exact this, HB3.out⟩
        case measure => simp [intOf]; omega
     ·obtain rfl : a = m.f.places.length := by omega
      have hi4 : ¬ (m.f.places.length : Int) < (m.f.places.length : Int) := by omega
      clear hb2
      go_wp2
      go_roundw
      case rel => exact ⟨n + 1, g2, cap2, by omega, by go_num, rfl, ownsRow_base HR2.out (by have := HB7.out.size; rw [← HG0.out]; exact this), by rw [HRW.out, HST.out, if_neg Bool.false_ne_true], bthen HB7.out HB2.out⟩
      case measure => simp [intOf]; omega
  ·obtain rfl : n = m.f.places.length := by omega
   have hi2 : ¬ (m.f.places.length : Int) < (m.f.places.length : Int) := by omega
   clear hrow hrw
   go_wp2
   go_ret2
   exact ⟨by rw [HRW.out, Nat.sub_self]; rfl, bthen HB0.out HB7.out⟩
theorem c_rWays (m : Fm) (s t : Int) (w : World) (hm : m.In w) (hs : Sized m.f) : Calls Tryz.prog 69 #[m.v, .int .i64 s, .int .i64 t] w fun e w' => e = .returned (pairV (rwaysV m.f s t)) ∧ Below w.heap.size w w' := by
 unfold rwaysV
 by_cases h : checkE m.f = 0
 ·rw [if_neg (fun k => k h)]
  cases h2 : rg 0 ((m.f.places.length : Int) - 1) s with
  | false => rw [Bool.false_and, if_pos rfl]; exact c_rWays_a m s t w hm hs h h2
  | true =>
   rw [Bool.true_and]
   cases h3 : rg 0 ((m.f.places.length : Int) - 1) t with
   | false => rw [if_pos rfl]; exact c_rWays_b m s t w hm hs h h2 h3
   | true =>
    rw [if_neg (by decide)]
    have e1 := rg_iff.1 h2
    have e2 := rg_iff.1 h3
    obtain ⟨j, rfl⟩ : ∃ j : Nat, s = (j : Int) := ⟨s.toNat, by omega⟩
    obtain ⟨k, rfl⟩ : ∃ k : Nat, t = (k : Int) := ⟨t.toNat, by omega⟩
    exact c_rWays_ok m j k w hm hs h h2 h3
 ·rw [if_pos h]; exact c_rWays_no m s t w hm hs h
end Go.Proofs.YtlppdgaogdpajaaGreatDoor
namespace Go.Proofs.YtlppdgaogdpajaaGreatDoor
open Go.RowKit Go.Shelf
attribute [local go_sem] Oper.semAt_some
set_option maxRecDepth 100000 in
set_option maxHeartbeats 4000000 in
theorem c_equalI (l : List Int) (a : Option Addr) (c : Nat) (b : Option Addr) (d : Nat) (w : World) (ha : Nums w a l) (hb : Nums w b l) (hs : l.length ≤ 100000) : Calls Tryz.prog 70 #[.slice a l.length c, .slice b l.length d] w fun e w' => e = .returned (.bool true) ∧ Below w.heap.size w w' := by
 have HA := Lib.hid ha
 have HBB := Lib.hid hb
 clear ha hb
 go_enter Tryz.func70, Tryz.ntmps70
 go_wp2
 go_loopw [13] (fun v wr => ∃ k : Nat, k ≤ l.length ∧ v = .int .i64 k ∧ Below w.heap.size w wr) (fun v _ => l.length - (intOf v).toNat)
 case atStart => exact ⟨0, by omega, rfl, by go_grown⟩
 case round =>
  obtain ⟨k, hk, rfl, hb0⟩ := hrel
  by_cases hlt : k < l.length
  ·obtain ⟨x, hx⟩ := some_at hlt
   obtain ⟨ab, ao, hpa, hat⟩ := (HA.out.later hb0).at hx
   obtain ⟨bb, bo, hpb, hbt⟩ := (HBB.out.later hb0).at hx
   rw [Nat.mul_one] at hat hbt
   have y0 := num_cell hat
   have y1 := num_cell hbt
   rw [hpa, hpb]
   have i0 : ¬ ((k : Int) < 0) := by omega
   have i1 : (k : Int) < (l.length : Int) := by omega
   clear hx hat hbt hpa hpb
   go_upto_region 6 with (fail)
   have ky0 := later_cell y0
   have ky1 := later_cell y1
   refine wp_region_later wr (by kernel_rfl) (by kernel_rfl) (Below.refl _ _) ?_
   repeat (go_big_quiet_step (fail))
   refine wpQuiet_nil ?_
   rintro ⟨W21, hB⟩
   dsimp only
   have hc := (bcell hB).1
   have hf := (bcell hB).2
   have hz := hB.size
   clear ky0 ky1
   replace y0 := (hc _ _ (cell_lt y0)).trans y0
   replace y1 := (hc _ _ (cell_lt y1)).trans y1
   replace hb0 : Below w.heap.size w W21 := bthen hb0 hB
   have hzW21 : wr.heap.size ≤ W21.heap.size := hz
   clear hc hf hB hz
   clear y0 y1
   have HB0 := Lib.hid hb0
   clear hb0
   go_wp2
   go_roundw
   case rel => exact ⟨k + 1, by omega, by go_num, HB0.out⟩
   case measure => simp [intOf]; omega
  ·obtain rfl : k = l.length := by omega
   have i1 : ¬ (l.length : Int) < (l.length : Int) := by omega
   go_wp2
   go_ret
   exact ⟨rfl, hb0⟩
end Go.Proofs.YtlppdgaogdpajaaGreatDoor
namespace Go.Proofs.YtlppdgaogdpajaaGreatDoor
theorem short_sized {f : Fe} (h : shortV f = true) : Sized f := by
 unfold shortV shortB at h
 simp only [Bool.and_eq_true, List.all_eq_true, decide_eq_true_eq] at h
 refine ⟨fun s hs => ?_, fun s hs => ?_⟩
 ·unfold plNames at hs
  obtain ⟨p, hp, rfl⟩ := List.mem_map.1 hs
  have := h.2.1 p hp
  omega
 ·unfold gtNames at hs
  obtain ⟨p, hp, rfl⟩ := List.mem_map.1 hs
  have := h.2.2 p hp
  omega
theorem bes_small (f : Fe) (a : Int) (h : shortV f = true) : (besV f a).1.length ≤ 1000 := by
 rw [bes_eq]
 unfold rbesV
 split
 ·simp
 ·split
  ·simp
  ·have h1 := rbesK_len f a f.places.length
   unfold shortV at h
   simp only [Bool.and_eq_true, decide_eq_true_eq] at h
   show (rbesK f a f.places.length).length ≤ 1000
   omega
end Go.Proofs.YtlppdgaogdpajaaGreatDoor
namespace Go.Proofs.YtlppdgaogdpajaaGreatDoor.fellPlaces
open Go.ChangeShapes Go.WideShapes Go.ChangeAt Go.RowKit Go.Joins Go.Deep
open Go.ChangeMaps (open_string shut_string)
set_option maxRecDepth 100000 in
set_option maxHeartbeats 8000000 in
theorem walk_s (m : Fm) (name : ByteArray) (a b : Int) {w : World} (hm : m.Arg w) (hs : shortV m.f = false) (hL : LibW w) :
  Calls Tryz.prog 13 #[m.v, .string name, .int .i64 a, .int .i64 b] w fun e w' => e = .returned (.bool true) ∧ Below w.heap.size w w' := by
 have hS := fun W (hb : Below w.heap.size w W) => c_Short m W (hm.later hb)
 rw [hs] at hS
 have HS := Lib.hid hS
 have HL := Lib.hid hL
 clear hS hL hm
 go_enter Tryz.func13, Tryz.ntmps13
 go_upto_region 1 with (fail)
 go_name_world W1 hW1
 have hb0 : Below w.heap.size w W1 := by subst hW1; go_grown
 obtain ⟨q0, q1, q2, q3⟩ := (show QB m W1 w.heap.size from by subst hW1; refine ⟨?_, ?_, ?_, ?_⟩ <;> go_simp)
 clear hW1 
 go_wp2_with fail
 refine (via (w0 := W1) (by go_grown) (HS.out _ hb0)).mono ?_
 rintro e W2 ⟨rfl, hc, hf, hz, hB⟩
 have zz := cy4 hc q0 q1 q2 q3
 clear q0 q1 q2 q3
 obtain ⟨q0, q1, q2, q3⟩ := zz
 replace hb0 : Below w.heap.size w W2 := bthen hb0 hB
 have hzW2 : W1.heap.size ≤ W2.heap.size := hz
 clear hc hf hB hz
 go_wp2_with fail
 refine (via (w0 := W2) (by go_grown) (c_alive _ (HL.out.later hb0))).mono ?_
 rintro e W3 ⟨rfl, hc, hf, hz, hB⟩
 have zz := cy4 hc q0 q1 q2 q3
 clear q0 q1 q2 q3
 obtain ⟨q0, q1, q2, q3⟩ := zz
 replace hb0 : Below w.heap.size w W3 := bthen hb0 hB
 have hzW3 : W2.heap.size ≤ W3.heap.size := hz
 clear hc hf hB hz
 go_wp2_with fail
 go_ret
 exact ⟨rfl, by have hbz := hb0.size; go_grown⟩
set_option maxRecDepth 100000 in
set_option maxHeartbeats 8000000 in
theorem walk_n (m : Fm) (name : ByteArray) (a b : Int) {w : World} (hm : m.Arg w) (hs : shortV m.f = true) (h : 100 < name.size) (hL : LibW w) :
  Calls Tryz.prog 13 #[m.v, .string name, .int .i64 a, .int .i64 b] w fun e w' => e = .returned (.bool true) ∧ Below w.heap.size w w' := by
 have hS := fun W (hb : Below w.heap.size w W) => c_Short m W (hm.later hb)
 rw [hs] at hS
 have HS := Lib.hid hS
 have HL := Lib.hid hL
 have h1 : (100 : Int) < (name.size : Int) := by omega
 clear hS hL hm
 go_enter Tryz.func13, Tryz.ntmps13
 go_upto_region 1 with (fail)
 go_name_world W1 hW1
 have hb0 : Below w.heap.size w W1 := by subst hW1; go_grown
 obtain ⟨q0, q1, q2, q3⟩ := (show QB m W1 w.heap.size from by subst hW1; refine ⟨?_, ?_, ?_, ?_⟩ <;> go_simp)
 clear hW1 
 go_wp2_with fail
 refine (via (w0 := W1) (by go_grown) (HS.out _ hb0)).mono ?_
 rintro e W2 ⟨rfl, hc, hf, hz, hB⟩
 have zz := cy4 hc q0 q1 q2 q3
 clear q0 q1 q2 q3
 obtain ⟨q0, q1, q2, q3⟩ := zz
 replace hb0 : Below w.heap.size w W2 := bthen hb0 hB
 have hzW2 : W1.heap.size ≤ W2.heap.size := hz
 clear hc hf hB hz
 go_wp2_with fail
 refine (via (w0 := W2) (by go_grown) (c_alive _ (HL.out.later hb0))).mono ?_
 rintro e W3 ⟨rfl, hc, hf, hz, hB⟩
 have zz := cy4 hc q0 q1 q2 q3
 clear q0 q1 q2 q3
 obtain ⟨q0, q1, q2, q3⟩ := zz
 replace hb0 : Below w.heap.size w W3 := bthen hb0 hB
 have hzW3 : W2.heap.size ≤ W3.heap.size := hz
 clear hc hf hB hz
 go_wp2_with fail
 go_ret
 exact ⟨rfl, by have hbz := hb0.size; go_grown⟩
set_option maxRecDepth 100000 in
set_option maxHeartbeats 8000000 in
theorem walk_ok (m : Fm) (name : ByteArray) (a b : Int) {w : World} (hm : m.Arg w) (hs : shortV m.f = true) (hmi : m.In w) (hz : Sized m.f) (h : name.size ≤ 100) (hL : LibW w) :
  Calls Tryz.prog 13 #[m.v, .string name, .int .i64 a, .int .i64 b] w fun e w' => e = .returned (.bool true) ∧ Below w.heap.size w w' := by
 have hS := fun W (hb : Below w.heap.size w W) => c_Short m W (hm.later hb)
 rw [hs] at hS
 have HS := Lib.hid hS
 have HL := Lib.hid hL
 have h1 : ¬ (100 : Int) < (name.size : Int) := by omega
 have hP1 := fun W (hb : Below w.heap.size w W) => c_PlaceOf m name W (hmi.later hb)
 have hP2 := fun W (hb : Below w.heap.size w W) => c_rPlaceOf m name W (hmi.later hb) hz
 have hG1 := fun W (hb : Below w.heap.size w W) => c_GateOf m name W (hmi.later hb)
 have hG2 := fun W (hb : Below w.heap.size w W) => c_rGateOf m name W (hmi.later hb) hz
 have hB1 := fun W (hb : Below w.heap.size w W) => c_Beside m a W (hmi.later hb)
 have hB2 := fun W (hb : Below w.heap.size w W) => c_rBeside m a W (hmi.later hb) hz
 have hW1 := fun W (hb : Below w.heap.size w W) => c_Ways m a b W (hmi.later hb)
 have hW2 := fun W (hb : Below w.heap.size w W) => c_rWays m a b W (hmi.later hb) hz
 rw [← bes_eq] at hB2
 rw [rways_eq] at hW2
 have hlen := bes_small m.f a hs
 obtain ⟨⟨i, e⟩, hR1⟩ : ∃ R, indexV m.f (plNames m.f.places) name = R := ⟨_, rfl⟩
 obtain ⟨⟨k, g⟩, hR2⟩ : ∃ R, indexV m.f (gtNames m.f.gates) name = R := ⟨_, rfl⟩
 obtain ⟨⟨L, o⟩, hR3⟩ : ∃ R, besV m.f a = R := ⟨_, rfl⟩
 obtain ⟨⟨d, q⟩, hR4⟩ : ∃ R, waysV m.f a b = R := ⟨_, rfl⟩
 rw [hR1] at hP1 hP2
 rw [hR2] at hG1 hG2
 rw [hR3] at hB1 hB2 hlen
 rw [hR4] at hW1 hW2
 dsimp only at hlen
 have P1 := Lib.hid hP1
 have P2 := Lib.hid hP2
 have G1 := Lib.hid hG1
 have G2 := Lib.hid hG2
 have B1 := Lib.hid hB1
 have B2 := Lib.hid hB2
 have Y1 := Lib.hid hW1
 have Y2 := Lib.hid hW2
 clear hS hL hm hmi hz hs h hP1 hP2 hG1 hG2 hB1 hB2 hW1 hW2 hR1 hR2 hR3 hR4
 go_enter Tryz.func13, Tryz.ntmps13
 go_upto_region 1 with (fail)
 go_name_world W1 hW1
 have hb0 : Below w.heap.size w W1 := by subst hW1; go_grown
 obtain ⟨q0, q1, q2, q3⟩ := (show QB m W1 w.heap.size from by subst hW1; refine ⟨?_, ?_, ?_, ?_⟩ <;> go_simp)
 clear hW1 
 go_wp2_with fail
 refine (via (w0 := W1) (by go_grown) (HS.out _ hb0)).mono ?_
 rintro e W2 ⟨rfl, hc, hf, hz, hB⟩
 have zz := cy4 hc q0 q1 q2 q3
 clear q0 q1 q2 q3
 obtain ⟨q0, q1, q2, q3⟩ := zz
 replace hb0 : Below w.heap.size w W2 := bthen hb0 hB
 have hzW2 : W1.heap.size ≤ W2.heap.size := hz
 clear hc hf hB hz
 go_wp2_with fail
 refine (P1.out _ hb0).mono ?_
 rintro E W3 ⟨rfl, hB⟩
 have hc := (bcell hB).1
 have zz := cy4 hc q0 q1 q2 q3
 clear q0 q1 q2 q3
 obtain ⟨q0, q1, q2, q3⟩ := zz
 replace hb0 := bthen hb0 hB
 clear hc hB
 go_wp2_with fail
 refine (P2.out _ hb0).mono ?_
 rintro E W4 ⟨rfl, hB⟩
 have hc := (bcell hB).1
 have zz := cy4 hc q0 q1 q2 q3
 clear q0 q1 q2 q3
 obtain ⟨q0, q1, q2, q3⟩ := zz
 replace hb0 := bthen hb0 hB
 clear hc hB
 go_wp2_with fail
 refine (G1.out _ hb0).mono ?_
 rintro E W5 ⟨rfl, hB⟩
 have hc := (bcell hB).1
 have zz := cy4 hc q0 q1 q2 q3
 clear q0 q1 q2 q3
 obtain ⟨q0, q1, q2, q3⟩ := zz
 replace hb0 := bthen hb0 hB
 clear hc hB
 go_wp2_with fail
 refine (G2.out _ hb0).mono ?_
 rintro E W6 ⟨rfl, hB⟩
 have hc := (bcell hB).1
 have zz := cy4 hc q0 q1 q2 q3
 clear q0 q1 q2 q3
 obtain ⟨q0, q1, q2, q3⟩ := zz
 replace hb0 := bthen hb0 hB
 clear hc hB
 go_wp2_with fail
 refine (B1.out _ hb0).mono ?_
 rintro E W7 ⟨v1, rfl, ho1, hB⟩
 dsimp only at ho1 ⊢
 have hc := (bcell hB).1
 obtain ⟨b1, c1, rfl, _, _, hl1, _⟩ := Lst.own numC_len ho1
 clear ho1
 have ha1 := hl1 (by omega)
 clear hl1
 have zz := cy4 hc q0 q1 q2 q3
 clear q0 q1 q2 q3
 obtain ⟨q0, q1, q2, q3⟩ := zz
 replace hb0 := bthen hb0 hB
 clear hc hB
 go_wp2_with fail
 refine (B2.out _ hb0).mono ?_
 rintro E W8 ⟨v2, rfl, ho2, hB⟩
 dsimp only at ho2 ⊢
 have hc := (bcell hB).1
 obtain ⟨b2, c2, rfl, _, _, hl2, _⟩ := Lst.own numC_len ho2
 clear ho2
 have ha2 := hl2 (by omega)
 clear hl2
 have zz := cy4 hc q0 q1 q2 q3
 clear q0 q1 q2 q3
 obtain ⟨q0, q1, q2, q3⟩ := zz
 replace ha1 := ha1.later hB
 replace hb0 := bthen hb0 hB
 clear hc hB
 go_wp2_with fail
 refine (Y1.out _ hb0).mono ?_
 rintro E W9 ⟨rfl, hB⟩
 have hc := (bcell hB).1
 have zz := cy4 hc q0 q1 q2 q3
 clear q0 q1 q2 q3
 obtain ⟨q0, q1, q2, q3⟩ := zz
 replace ha1 := ha1.later hB
 replace ha2 := ha2.later hB
 replace hb0 := bthen hb0 hB
 clear hc hB
 go_wp2_with fail
 refine (Y2.out _ hb0).mono ?_
 rintro E W10 ⟨rfl, hB⟩
 have hc := (bcell hB).1
 have zz := cy4 hc q0 q1 q2 q3
 clear q0 q1 q2 q3
 obtain ⟨q0, q1, q2, q3⟩ := zz
 replace ha1 := ha1.later hB
 replace ha2 := ha2.later hB
 replace hb0 := bthen hb0 hB
 clear hc hB
 go_wp2_with fail
 refine (c_alive _ (HL.out.later hb0)).mono ?_
 rintro E W11 ⟨rfl, hB⟩
 have hc := (bcell hB).1
 have zz := cy4 hc q0 q1 q2 q3
 clear q0 q1 q2 q3
 obtain ⟨q0, q1, q2, q3⟩ := zz
 replace ha1 := ha1.later hB
 replace ha2 := ha2.later hB
 replace hb0 := bthen hb0 hB
 clear hc hB
 go_wp2_with fail
 refine (c_equalI L b1 c1 b2 c2 _ ha1 ha2 (by omega)).mono ?_
 rintro E W12 ⟨rfl, hB⟩
 have hc := (bcell hB).1
 have zz := cy4 hc q0 q1 q2 q3
 clear q0 q1 q2 q3
 obtain ⟨q0, q1, q2, q3⟩ := zz
 replace hb0 := bthen hb0 hB
 clear hc hB
 go_wp2
 go_ret
 exact ⟨rfl, hb0⟩
theorem walk {w : World} (m : Fm) (hm : m.Arg w) (name : ByteArray) (_mn : name.size ≤ maxLen) (a b : Int) (hL : LibW w) : Calls Tryz.prog 13 #[m.v, .string name, .int .i64 a, .int .i64 b] w fun e w' => e = .returned (.bool true) ∧ Below w.heap.size w w' := by
 cases hs : shortV m.f with
 | false => exact walk_s m name a b hm hs hL
 | true =>
  by_cases h : name.size ≤ 100
  ·exact walk_ok m name a b hm hs (short_in hm hs) (short_sized hs) h hL
  ·exact walk_n m name a b hm hs (by omega) hL
set_option maxRecDepth 100000 in
theorem contract (H : Type) (enc : TypeId × Value → H) (W : World) (base : Nat) (args : Array Value) (ds gs : List (DataW H)) (before : List MemPlace)
    (hval : ∀ (j : Nat) t v, Tryz.f13.params[j]? = some t → args[j]? = some v → Value.okWide Tryz.prog W .any base t v)
    (hW : DataW.Whole enc Tryz.prog Tryz.f13.params.toList Rows.fellPlacesSpec.vars false W args.toList ds gs before) (hL : LibW W) :
    Calls Tryz.prog 13 args W fun e W' => ∃ v, e = .returned v ∧ Rows.fellPlacesSpec.post enc Tryz.prog Tryz.f13 false true false false W args v W' := by
  have hW' := hW
  obtain ⟨p, q, hA0, hV, rfl, _, _⟩ := hW
  have hA : DataW.TrodAll enc Tryz.prog W 0 (fun _ => true) true Tryz.f13.params.toList args.toList ds p := hA0
  rw [Tryz.params13] at hA hval
  obtain ⟨v0, vs0, d0, ds0, p0, q0, hargs, rfl, rfl, h0, r0⟩ := trodAll_cons hA
  obtain ⟨v1, vs1, d1, ds1, p1, q1, rfl, rfl, rfl, h1, r1⟩ := trodAll_cons r0
  obtain ⟨v2, vs2, d2, ds2, p2, q2, rfl, rfl, rfl, h2, r2⟩ := trodAll_cons r1
  obtain ⟨v3, vs3, d3, ds3, p3, q3, rfl, rfl, rfl, h3, r3⟩ := trodAll_cons r2
  obtain ⟨rfl, rfl, rfl⟩ := trodAll_nil r3
  obtain rfl : args = #[v0, v1, v2, v3] := by cases args; simp_all
  obtain ⟨rfl, rfl⟩ := trodVars_none hV
  obtain ⟨m0, rfl, e0⟩ := open_fell (hval 0 25 v0 rfl rfl) h0
  obtain ⟨a1, rfl, rfl, rfl, w1⟩ := open_string Tryz.underlying9 (hval 1 9 v1 rfl rfl) h1
  obtain ⟨a2, rfl, rfl, rfl, w2⟩ := open_int Tryz.underlying3 (hval 2 3 v2 rfl rfl) h2
  obtain ⟨a3, rfl, rfl, rfl, w3⟩ := open_int Tryz.underlying3 (hval 3 3 v3 rfl rfl) h3
  clear hA0
  have s1 := stays h1 (by kernel_rfl) (by kernel_rfl)
  have s2 := stays h2 (by kernel_rfl) (by kernel_rfl)
  have s3 := stays h3 (by kernel_rfl) (by kernel_rfl)
  refine (walk m0 e0 a1 w1 a2 a3 hL).mono fun e W' ⟨he, hg⟩ => ?_
  subst he
  have hlt := fun x hx => hW'.lt x hx
  exact ⟨_, rfl, post_of_below (pa := (p0 ++ ([] ++ ([] ++ ([] ++ []))))) (pv := []) hW' (fun _ _ _ => (trodAll_cons_mk (shut_bool Tryz.underlying4 _) trodAll_mk0)) (fun sp hsp => (trodAll_cons_mk (staysB h0 (by kernel_rfl) (by kernel_rfl) hg hlt (fun x hx => by simp [hx]) sp hsp) (trodAll_cons_mk (s1 _ _) (trodAll_cons_mk (s2 _ _) (trodAll_cons_mk (s3 _ _) trodAll_mk0))))) (fun _ _ => rfl) rfl
    hg (ok_one (by kernel_rfl) rfl (okWide_bool_mk Tryz.underlying4 _))⟩
set_option maxRecDepth 100000 in
theorem reads (os : Os) {H : Type} (enc : TypeId × Value → H) : ∃ places, DataW.whole enc Tryz.prog ((laidWorld os).forCall (fun _ _ => 0) ⟨#[], #[.agg #[.int .i64 0, .int .i64 0, .slice none 0 0, .slice none 0 0], .string ⟨#[]⟩, .int .i64 0, .int .i64 0], []⟩).memory Tryz.f13.params.toList Rows.fellPlacesSpec.vars false (Array.toList #[.agg #[.int .i64 0, .int .i64 0, .slice none 0 0, .slice none 0 0], .string ⟨#[]⟩, .int .i64 0, .int .i64 0]) 8 = some ([.agg [.lit (.int .i64 0), .lit (.int .i64 0), .nil, .nil], .lit (.string []), .lit (.int .i64 0), .lit (.int .i64 0)], [], places) :=
 ⟨[], by kernel_rfl⟩
set_option maxRecDepth 100000 in
theorem lifted (os : Os) (started : os.Started) (H : Type) (enc : TypeId × Value → H) (F : Stop.Interp) :
    ReturnsInHanded {} Tryz.checked os 13 .any ((OpenSpec.ofChange Rows.fellPlacesSpec).preRow enc Tryz.prog Tryz.f13 Rows.fellPlacesRow.domain false Rows.fellPlacesRow.laid) (((OpenSpec.ofChange Rows.fellPlacesSpec).at F).post enc Tryz.prog Tryz.f13 false true false false) := by
  obtain ⟨places, hx⟩ := reads os enc
  refine returnsInHanded_of_row (C := Tryz.checked) (s := OpenSpec.ofChange Rows.fellPlacesSpec) own started (by kernel_rfl) Tryz.func13
    (witness_row_atRef (enc := enc) (C := Tryz.checked) false (laidWorld os) #[.agg #[.int .i64 0, .int .i64 0, .slice none 0 0, .slice none 0 0], .string ⟨#[]⟩, .int .i64 0, .int .i64 0] rfl (by kernel_rfl) (by kernel_rfl) (by kernel_rfl)
      (OpenSpec.preRow_of_cond 8 hx (by kernel_rfl) (fun k hk => by cases hk) (by kernel_rfl) (laidWorld_met os _))) ?_
  intro W base args ds gs before hval hW _ _ _ hL hsh _
  exact contract H enc W base args ds gs before hval hW (libW_of hL hsh)
theorem said : Rows.FellPlacesSaid :=
 OpenClaim.holds_of_cond 13 Tryz.f13 rfl rfl rfl rfl rfl rfl rfl ⟨rfl, rfl, rfl, rfl, rfl⟩ rfl rfl rfl rfl rfl (by as_aux_lemma => kernel_rfl) Tryz.func13 facts
  (of_decide_eq_true (by as_aux_lemma => kernel_rfl)) (by unfold Func.isWrapper; first | (rw [if_pos (by decide +kernel)]; kernel_rfl) | (rw [if_neg (by decide +kernel)]; exact ⟨rfl, rfl⟩))
  (fun os started H enc _ F => by rw [OpenClaim.pre_eq_preRow]; exact lifted os started H enc F)
theorem proved : Rows.FellPlacesCardSaid := tied said
end Go.Proofs.YtlppdgaogdpajaaGreatDoor.fellPlaces
