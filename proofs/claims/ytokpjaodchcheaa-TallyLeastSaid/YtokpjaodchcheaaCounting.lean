/- This text proves what Counting, of package tally and of its reference, and SameRecounts return. -/
import Derived.Test.YtokpjaodchcheaaLists
namespace Go.Proofs.Ytokpjaodchcheaa
open Go.RowKit Go.Shelf
attribute [local go_sem] Oper.semAt_some

theorem cnt_take {known : Int} {l : List Rc} {k : Nat} (hk : k < l.length) : cnt known (l.take (k + 1)) = cnt known (l.take k) ++ if (rc l k).k ≤ known then [rc l k] else [] := by
  have e : l.take (k + 1) = l.take k ++ [rc l k] := by rw [List.take_succ_eq_append_getElem hk]; simp [rc, hk]
  rw [e]
  unfold cnt
  rw [List.filter_append]
  by_cases h : (rc l k).k ≤ known <;> simp [h]
theorem cnt_len (known : Int) (l : List Rc) (k : Nat) : (cnt known (l.take k)).length ≤ k := by
  unfold cnt
  exact Nat.le_trans (List.length_filter_le _ _) (List.length_take_le _ _)
theorem cnt_len2 (known : Int) (l : List Rc) : (cnt known l).length ≤ l.length := by
  unfold cnt
  exact List.length_filter_le _ _

/-- What a call returns that makes a list of re-counts. -/
def GivesRc (l : List Rc) (w : World) (e : Ending) (w' : World) : Prop := (∃ b c, e = .returned (.slice b l.length c) ∧ Recs w' b l ∧ ∀ g o, b = some ⟨g, o, none⟩ → w.heap.size ≤ g) ∧ Below w.heap.size w w'

set_option maxRecDepth 100000 in
set_option maxHeartbeats 4000000 in
theorem c_rCounting (l : List Rc) (a : Option Addr) (cap : Nat) (known : Int) (w : World) (hl : Recs w a l) :
    Calls Try.prog 33 #[.slice a l.length cap, .int .i64 known] w (GivesRc (cnt known l) w) := by
  have hlen := hl.1
  have HL := Lib.hid hl
  clear hl
  obtain ⟨i0, hi0, hz0, hz1, hz2⟩ := info_parts rc_info
  go_enter Try.func33, Try.ntmps33
  go_wp2
  go_loopw [5, 6] (fun v5 v6 wr => ∃ k : Nat, k ≤ l.length ∧ v6 = .int .i64 k ∧ wr.ownsRow w.heap.size 43 6 v5 (cnt known (l.take k)).length (cellsL rcC (cnt known (l.take k))) ∧ Below w.heap.size w wr) (fun _ v6 _ => l.length - (intOf v6).toNat)
  case atStart => exact ⟨0, by omega, rfl, own_nil _ _ _ _, Below.refl _ _⟩
  case round =>
    obtain ⟨k, hk, rfl, hown, hb⟩ := hrel
    have HO := Lib.hid hown
    clear hown
    by_cases hlt : k < l.length
    · obtain ⟨b, o, rfl, hat⟩ := (HL.out.later hb).2 (by intro e; rw [e] at hlt; simp at hlt)
      obtain ⟨x1, x2, x3, x4, x5, x6⟩ := hat k hlt
      clear hat
      have hlk := cnt_len known l k
      have hct := cnt_take (known := known) hlt
      have hidx : ¬ ((k : Int) < 0) := by omega
      have hidx2 : (k : Int) < (l.length : Int) := by omega
      by_cases hkn : (rc l k).k ≤ known
      · rw [if_pos hkn] at hct
        have HCT := Lib.hid hct
        clear hct
        have hC : rcC (rc l k) = [.int .i64 (rc l k).i, .int .i64 (rc l k).d, .int .i64 (rc l k).k, .int .i64 (rc l k).s, .int .i64 (rc l k).t, .int .i64 (rc l k).n] := rfl
        have HC := Lib.hid hC
        clear hC
        generalize (rc l k).i = y1 at *
        generalize (rc l k).d = y2 at *
        generalize (rc l k).k = y3 at *
        generalize (rc l k).s = y4 at *
        generalize (rc l k).t = y5 at *
        generalize (rc l k).n = y6 at *
        have HH := HO.out
        go_wp2_with (at_builtin; refine stuckHere ?_)
        refine unHid ?_
        refine wpList_append_own_at _ rfl _ _ 39 rfl w.heap.size 43 i0 _ 6 48 Try.underlying39 hi0 hz0 hz1 hz2 rfl (by decide) _ _ _ rfl (HH.alloc _) ⟨wr.heap.size, 0, none⟩ 1 1 [.int .i64 y1, .int .i64 y2, .int .i64 y3, .int .i64 y4, .int .i64 y5, .int .i64 y6] rfl rfl (cells_new _ #[_, _, _, _, _, _] _) (by simp [Value.oneCell']) (by unfold maxLen; omega) (by omega) (by have := hb.size; simp; omega) ?_
        intro v' w1 hown' hgrow _ hat
        have e1 : cnt known (l.take (k + 1)) = cnt known (l.take k) ++ [rc l k] := HCT.out
        have hown2 : w1.ownsRow w.heap.size 43 6 v' (cnt known (l.take (k + 1))).length (cellsL rcC (cnt known (l.take (k + 1)))) := by
          rw [e1, cellsL_snoc, List.length_append, HC.out]
          exact hown'
        have hlt' := HH.lt
        have hbb : Below w.heap.size w w1 := by
          have h1 : Below w.heap.size w (wr.alloc (Obj.cells #[.int .i64 y1, .int .i64 y2, .int .i64 y3, .int .i64 y4, .int .i64 y5, .int .i64 y6] 43)) := hb.alloc hb.size _
          exact h1.trans ((kept_of_grown hgrow).below (by have := hb.size; simp; omega) (fun j hj => (hlt' j hj).1))
        have HB := Lib.hid hbb
        have HW := Lib.hid hown2
        clear hown' hgrow hat hlt' e1 hown2 hbb HH
        go_wp2
        go_roundw
        case rel => exact ⟨k + 1, by omega, by go_num, HW.out, HB.out⟩
        case measure => simp [intOf]; omega
      · rw [if_neg hkn, List.append_nil] at hct
        have HCT := Lib.hid hct
        clear hct
        generalize (rc l k).k = y3 at *
        go_wp2
        go_roundw
        case rel => exact ⟨k + 1, by omega, by go_num, by rw [HCT.out]; exact HO.out, hb⟩
        case measure => simp [intOf]; omega
    · obtain rfl : k = l.length := by omega
      have hown := HO.out
      rw [List.take_length] at hown
      obtain ⟨b, c, rfl, hr, hnew⟩ := rc_own hown
      have HN := Lib.hid hnew
      clear hnew
      have HR := Lib.hid (hr (Nat.le_trans (cnt_len2 known l) hlen))
      clear hr hown
      go_wp2
      go_ret
      exact ⟨⟨_, _, rfl, HR.out, HN.out⟩, hb⟩

/-- Between two rounds of AppendSeq. -/
structure AI (w : World) (B base : Nat) (pre : List Rc) (O : Nat → Prop) (A : World) : Prop where
  row : ∃ v, A.ownsRow base 43 6 v pre.length (cellsL rcC pre) ∧ Own1 A B 0 v ∧ ∀ g, v.ownBlock = some g → O g
  o1 : O B
  lt : ∀ k, O k → k < A.heap.size
  ge : ∀ k, O k → w.heap.size ≤ k
  below : Below w.heap.size w A
theorem AI.abide {w : World} {B base : Nat} {pre : List Rc} {B0 : Nat} (hB : w.heap.size ≤ B0) : Abide B0 (AI w B base pre) := by
  intro O A C h hk
  have hn : ∀ {k}, O k → ¬ (B0 ≤ k ∧ ¬ O k) := fun h x => x.2 h
  obtain ⟨v, h1, h2, h3⟩ := h.row
  exact ⟨⟨v, ownsRow_kept h1 hk (fun g hg => hn (h3 g hg)), h2.kept hk (hn h.o1), h3⟩, h.o1, fun k hx => Nat.lt_of_lt_of_le (h.lt k hx) hk.size, h.ge, h.below.trans (hk.below h.below.size (fun k hx => by omega))⟩
theorem Recs.kept {O : Nat → Prop} {A C : World} {a : Option Addr} {l : List Rc} (h : Recs A a l) (hk : Kept O A C) (hn : ∀ g o, a = some ⟨g, o, none⟩ → ¬ O g) : Recs C a l :=
  ⟨h.1, fun hl => by obtain ⟨b, o, ha, hx⟩ := h.2 hl; exact ⟨b, o, ha, fun k hk' => (hx k hk').kept hk (hn b o ha)⟩⟩
theorem Iter.later {α : Type} {g : Nat} {lb : Array Value} {encs : α → Array Value} {ys : List α} {mine : Nat → Prop} {w w1 : World} (h : Iter g lb encs ys mine w) (hb : Below w.heap.size w w1) : Iter g lb encs ys mine w1 := by
  intro lp J Jx W O0 hW
  exact h lp J Jx W O0 (bthen hb hW)

set_option maxRecDepth 100000 in
set_option maxHeartbeats 4000000 in
theorem c_AppendSeq (g : Nat) (lb : Array Value) (eg : Ent g) (ys : List Rc) (mine : Nat → Prop) (w : World) (hmine : ∀ k, mine k → k < w.heap.size) (hit : Iter g lb (fun x : Rc => #[x.v]) ys mine w) (hlen : ys.length ≤ 1000000000000) :
    Calls Try.prog 104 #[.slice none 0 0, .func (.func g) #[] lb] w (GivesRc ys w) := by
  obtain ⟨i0, hi0, hz0, hz1, hz2⟩ := info_parts rc_info
  have HIT := Lib.hid hit
  clear hit
  refine callsIn_wide.1 (callsIn_of_wp_marks (n := 9) Try.func104 rfl trivial ?_ rfl)
  refine wpIn_wide.2 ?_
  simp only [Try.ntmps104, List.size_toArray, List.length_cons, List.length_nil, Nat.reduceAdd, Nat.reduceSub, Array.replicate_succ, Array.replicate_zero, List.push_toArray, List.append_toArray, List.nil_append, List.cons_append]
  go_wp2_with fail
  go_name_world W1 hW1
  have hb0 : Below w.heap.size w W1 := by subst hW1; go_grown
  have hz1' : W1.heap.size = w.heap.size + 1 := by subst hW1; simp
  have s0 : W1.cell? ⟨w.heap.size, 0, none⟩ = some (.slice none 0 0) := by subst hW1; go_simp
  have fs0 : W1.frozen? ⟨w.heap.size, 0, none⟩ = false := by subst hW1; go_simp
  clear hW1
  have HZ := Lib.hid hz1'
  have hzw : w.heap.size < W1.heap.size := by omega
  clear hz1'
  refine wp_range (encs := fun x : Rc => #[x.v]) (ys := ys) (mine := mine) rfl eg ?hm (HIT.out.later hb0) (fun _ => rfl) (fun k => k = w.heap.size) ?ho
    (AI w w.heap.size W1.heap.size) (fun _ _ _ => False) ?hI ?hIx ?hlt ?h0
    (fun pre x a' O A => ∃ Bx, AI w w.heap.size W1.heap.size pre O A ∧ O Bx ∧ BoxRc A Bx x ∧ a' = { tmps := #[.slice none 0 0, .func (.func g) #[] lb, .pointer (some ⟨w.heap.size, 0, none⟩), undef, .slice none 0 0, .pointer (some ⟨Bx, 0, none⟩), .func (.func g) #[] lb, x.v, undef, undef, undef, undef, undef], defers := [] }) ?hM ?assign ?body ?done ?stop
  case hm => intro k h; have := hmine k h; omega
  case ho => rintro k h rfl; have := hmine _ h; omega
  case hI => exact fun pre => AI.abide (by omega)
  case hIx => exact fun c O A C h hk => h.elim
  case hlt => exact fun pre O A h => h.lt
  case h0 =>
    exact ⟨⟨_, own_nil _ _ _ _, ⟨s0, fs0⟩, fun g hg => by simp [Value.ownBlock] at hg⟩, rfl, by rintro k rfl; omega, by rintro k rfl; omega, hb0⟩
  case hM =>
    rintro pre x a' O A C ⟨Bx, h, hx, hbx, rfl⟩ hk
    exact ⟨Bx, AI.abide (by omega) O A C h hk, hx, hbx.kept hk (fun y => y.2 hx), rfl⟩
  case assign =>
    rintro lq pre x O A K h hpre hK
    gi_wp2
    have hsz := h.below.size
    refine hK _ (fun k => O k ∨ k = A.heap.size) _ ?_ ((Kept.refl _ _).alloc _) ⟨A.heap.size, ?_, .inr rfl, ?_, rfl⟩
    · rintro k (h | rfl)
      · exact .inl h
      · exact .inr (Nat.le_refl _)
    · obtain ⟨v, h1, h2, h3⟩ := h.row
      have hk : Kept (fun _ => False) A (A.alloc (Obj.cells #[.int .i64 x.i, .int .i64 x.d, .int .i64 x.k, .int .i64 x.s, .int .i64 x.t, .int .i64 x.n] 43)) := (Kept.refl _ _).alloc _
      refine ⟨⟨v, ownsRow_kept h1 hk (fun _ _ h => h), h2.kept hk (fun h => h), fun g hg => .inl (h3 g hg)⟩, .inl h.o1, ?_, ?_, h.below.alloc hsz _⟩
      · rintro k (hx | rfl)
        · have := h.lt k hx; simp; omega
        · simp
      · rintro k (hx | rfl)
        · exact h.ge k hx
        · exact hsz
    · exact ⟨by go_simp, by go_simp, by go_simp, by go_simp, by go_simp, by go_simp⟩
  case body =>
    rintro lq pre x a' O A hlq hOl ⟨Bx, H, hx, hbx, rfl⟩ hpre
    obtain ⟨v, hrow, hcv, hog⟩ := H.row
    obtain ⟨hcv1, hcv2⟩ := hcv
    obtain ⟨x1, x2, x3, x4, x5, x6⟩ := hbx
    have hlp : (pre ++ [x]).length ≤ ys.length := hpre.length_le
    simp only [List.length_append, List.length_cons, List.length_nil] at hlp
    have hwa := H.below.size
    have hW1A : W1.heap.size ≤ A.heap.size := by have := H.lt _ H.o1; have := HZ.out; omega
    have hbase : ∀ g, v.ownBlock = some g → W1.heap.size ≤ g ∧ g < A.heap.size := fun g hg => hrow.lt g hg
    have hBn : ¬ v.ownBlock = some w.heap.size := fun e => by have := hbase _ e; omega
    have HH := Lib.hid H
    have HR := Lib.hid hrow
    have HG := Lib.hid hog
    have HBA := Lib.hid hbase
    have HBN := Lib.hid hBn
    clear H hrow hog hbase hpre hBn s0 fs0 hb0
    gi_wp2_with (gi_at_builtin; refine stuckHere ?_)
    refine unHid ?_
    refine wpListIn_append_own_at _ rfl _ _ 39 rfl W1.heap.size 43 i0 _ 6 48 Try.underlying39 hi0 hz0 hz1 hz2 rfl (by decide) _ _ _ rfl (HR.out.alloc _) ⟨A.heap.size, 0, none⟩ 1 1 [.int .i64 x.i, .int .i64 x.d, .int .i64 x.k, .int .i64 x.s, .int .i64 x.t, .int .i64 x.n] rfl rfl (cells_new _ #[_, _, _, _, _, _] _) (by simp [Value.oneCell']) (by unfold maxLen; omega) (by omega) (by simp; omega) ?_
    intro v' w1 hown' hgrow _ hat
    obtain ⟨g', cap', rfl⟩ := own_slice hown'
    have hka : Kept (fun _ => False) A (A.alloc (Obj.cells #[.int .i64 x.i, .int .i64 x.d, .int .i64 x.k, .int .i64 x.s, .int .i64 x.t, .int .i64 x.n] 43)) := (Kept.refl _ _).alloc _
    have hkg := (hka.wider (O' := fun k => k = w.heap.size ∨ v.ownBlock = some k) (fun _ _ h => h.elim)).trans (kept_of_grown hgrow) (fun _ _ h => .inr h)
    have q1 := (kept_of_grown hgrow).cell HBN.out (hka.cell (fun h => h) hcv1)
    have q2 := ((kept_of_grown hgrow).frozen (cell_lt (hka.cell (fun h => h) hcv1)) HBN.out).trans ((hka.frozen (cell_lt hcv1) (fun h => h)).trans hcv2)
    have hg' := hown'.lt g' rfl
    have hz2' : A.heap.size < w1.heap.size := by have := hgrow.size; simp at this; omega
    have HKG := Lib.hid hkg
    have HO' := Lib.hid hown'
    have HAT := Lib.hid hat
    clear hka hkg hown' hgrow hat hcv1 hcv2 x1 x2 x3 x4 x5 x6
    gi_wp2
    have h := HH.out
    have hg1 := hg'.1
    have kc : Kept (fun k => k = w.heap.size) w1 (w1.setCell { block := w.heap.size, off := 0 } (.slice (some { block := g', off := 0 }) (pre.length + 1) cap')) :=
      Kept.setCell (p := { block := w.heap.size, off := 0 }) (Kept.refl (fun k => k = w.heap.size) w1) (.inl rfl) _
    have kall := HKG.out.trans kc (fun _ _ h => .inl h)
    refine ⟨fun j => O j ∨ j = g', ?_, kall.wider ?_, ⟨.slice (some ⟨g', 0, none⟩) (pre.length + 1) cap', ?_, ⟨by go_simp, by go_simp⟩, ?_⟩, .inl h.o1, ?_, ?_, h.below.trans (kall.below h.below.size ?_)⟩
    · rintro j (hj | rfl)
      · exact .inl hj
      · rcases HAT.out with e | e
        · exact .inl (HG.out _ (e ▸ rfl))
        · simp [Value.ownBlock] at e
          right
          omega
    · rintro j _ (rfl | hv)
      · exact h.o1
      · exact HG.out j hv
    · have := ownsRow_kept HO'.out kc (fun g hg e => by simp [Value.ownBlock] at hg; omega)
      rw [cellsL_snoc, List.length_append]
      exact this
    · intro g hg
      simp [Value.ownBlock] at hg
      exact .inr hg.symm
    · rintro j (hj | rfl)
      · have := h.lt j hj; simp; omega
      · simp; exact hg'.2
    · rintro j (hj | rfl)
      · exact h.ge j hj
      · omega
    · rintro j (rfl | hj)
      · omega
      · have := HBA.out j hj; omega
  case done =>
    rintro D O A hD hOD H hK
    obtain ⟨v, hrow, hcv, hog⟩ := H.row
    obtain ⟨hcv1, hcv2⟩ := hcv
    obtain ⟨b, c, rfl, hr, hnew⟩ := rc_own hrow
    have HN := Lib.hid (fun g o h => Nat.le_trans (Nat.le_of_lt hzw) (hnew g o h))
    clear hnew
    have HR := Lib.hid (hr hlen)
    have HH := Lib.hid H
    have hne : ∀ g o, b = some ⟨g, o, none⟩ → ¬ g = D := fun g o e h => own_ne hrow hK (by rw [e, h]; rfl)
    have HNE := Lib.hid hne
    clear hne
    clear H hrow hog hr s0 fs0 hb0
    go_wp2
    have H := HH.out
    refine end_collected (v := .slice b ys.length c) hK ?_ ?_ _ (.inr rfl)
    · intro C2 hk3
      simp [results, Try.results104, go_sem]
    · intro C2 hk3
      refine ⟨⟨b, c, rfl, ?_, HN.out⟩, H.below.trans (hk3.below H.below.size (by rintro k rfl; omega))⟩
      exact HR.out.kept hk3 (fun g o e h => HNE.out g o e h)
  case stop =>
    rintro D c O A hD hOD h hK
    exact h.elim

theorem c_Collect (g : Nat) (lb : Array Value) (eg : Ent g) (ys : List Rc) (mine : Nat → Prop) (w : World) (hmine : ∀ k, mine k → k < w.heap.size) (hit : Iter g lb (fun x : Rc => #[x.v]) ys mine w) (hlen : ys.length ≤ 1000000000000) :
    Calls Try.prog 75 #[.func (.func g) #[] lb] w (GivesRc ys w) := by
  have hc := c_AppendSeq g lb eg ys mine w hmine hit hlen
  have HC := Lib.hid hc
  clear hc hit
  go_enter Try.func75, Try.ntmps75
  go_wp2_with fail
  refine HC.out.mono ?_
  rintro e w' ⟨⟨b, c, rfl, hr, hn⟩, hb⟩
  have HR := Lib.hid hr
  have HN := Lib.hid hn
  clear hr hn
  go_wp2
  go_ret
  exact ⟨⟨_, _, rfl, HR.out, HN.out⟩, hb⟩

set_option maxHeartbeats 2000000 in
theorem c_Counting (l : List Rc) (a : Option Addr) (cap : Nat) (known : Int) (w : World) (hl : Recs w a l) :
    Calls Try.prog 32 #[.slice a l.length cap, .int .i64 known] w (GivesRc (cnt known l) w) := by
  have hlen := hl.1
  have hbl := hl.block
  have HL := Lib.hid hl
  have HBL := Lib.hid hbl
  clear hl hbl
  go_enter Try.func32, Try.ntmps32
  go_wp2_with fail
  refine (c_counting _ _ _ _ _).mono ?_
  rintro e W' ⟨rfl, rfl⟩
  go_wp2_with fail
  obtain ⟨W1, hW1⟩ : ∃ W1, (w.alloc (.cells #[.slice a l.length cap] 39)).alloc (.cells #[.int .i64 known] 3) = W1 := ⟨_, rfl⟩
  rw [hW1]
  have hb0 : Below w.heap.size w W1 := by subst hW1; go_grown
  have hz1 : W1.heap.size = w.heap.size + 2 := by subst hW1; simp
  have c0 : W1.cell? ⟨w.heap.size, 0, none⟩ = some (.slice a l.length cap) := by subst hW1; go_simp
  have c1 : W1.cell? ⟨w.heap.size + 1, 0, none⟩ = some (.int .i64 known) := by subst hW1; go_simp
  clear hW1
  have hit := iter_counting w.heap.size (w.heap.size + 1) l a cap known (fun k => k = w.heap.size + 1 ∨ (k < w.heap.size)) W1 (by rintro k (h | h) <;> omega) (.inl rfl) (fun hne b o h => .inr (HBL.out hne b o h)) c0 c1 (HL.out.later hb0)
  have hmn : ∀ k, (fun k => k = w.heap.size + 1 ∨ (k < w.heap.size)) k → k < W1.heap.size := by rintro k (h | h) <;> omega
  have hcc := c_Collect 105 _ (enters_of Try.func105 (by kernel_rfl) rfl) (cnt known l) _ W1 hmn hit (Nat.le_trans (cnt_len2 known l) hlen)
  refine hcc.mono ?_
  rintro e w' ⟨⟨b, c, rfl, hr, hn⟩, hb⟩
  have HR := Lib.hid hr
  have HN := Lib.hid (fun g o h => Nat.le_trans hb0.size (hn g o h))
  have hbn := bthen hb0 hb
  clear hr hn hcc hmn hit c0 c1 hz1 hb hb0
  go_wp2
  go_ret
  exact ⟨⟨_, _, rfl, HR.out, HN.out⟩, hbn⟩

theorem take_rc2 {l m : List Rc} {k : Nat} (h1 : k < l.length) (h2 : k < m.length) (h : l.take k = m.take k) : (l.take (k + 1) = m.take (k + 1)) ↔ rc l k = rc m k := by
  rw [take_rc h1, take_rc h2, h]; simp

set_option maxHeartbeats 4000000 in
theorem c_SameRecounts (l m : List Rc) (a b : Option Addr) (ca cb : Nat) (w : World) (hl : Recs w a l) (hm : Recs w b m) :
    Calls Try.prog 31 #[.slice a l.length ca, .slice b m.length cb] w fun e w' => e = .returned (.bool (decide (l = m))) ∧ Below w.heap.size w w' := by
  have hl1 := hl.1
  have hm1 := hm.1
  have HL := Lib.hid hl
  have HM := Lib.hid hm
  clear hl hm
  by_cases hn : l.length = m.length
  · have HN := Lib.hid hn
    have hn' : (l.length : Int) = m.length := by omega
    clear hn
    go_enter Try.func31, Try.ntmps31
    go_wp2
    go_loopw [5] (fun v5 wr => ∃ k : Nat, k ≤ l.length ∧ v5 = .int .i64 k ∧ l.take k = m.take k ∧ Below w.heap.size w wr) (fun v5 _ => l.length - (intOf v5).toNat)
    case atStart => exact ⟨0, by omega, rfl, rfl, Below.refl _ _⟩
    case round =>
      obtain ⟨k, hk, rfl, ht, hb0⟩ := hrel
      have HT := Lib.hid ht
      clear ht
      by_cases hlt : k < l.length
      · obtain ⟨bl, ol, rfl, hat⟩ := (HL.out.later hb0).2 (by intro e; rw [e] at hlt; simp at hlt)
        obtain ⟨bm, om, rfl, hbt⟩ := (HM.out.later hb0).2 (by intro e; have := HN.out; rw [e] at this; simp at this; rw [this] at hlt; simp at hlt)
        have hlm : k < m.length := by have := HN.out; omega
        obtain ⟨x1, x2, x3, x4, x5, x6⟩ := hat k hlt
        obtain ⟨y1, y2, y3, y4, y5, y6⟩ := hbt k hlm
        clear hat hbt
        have hst := take_rc2 hlt hlm HT.out
        have hne : ¬ rc l k = rc m k → decide (l = m) = false := fun h => by simp; intro e; exact h (by rw [e])
        obtain ⟨⟨v1, v2, v3, v4, v5, v6⟩, hx⟩ : ∃ z, rc l k = z := ⟨_, rfl⟩
        obtain ⟨⟨u1, u2, u3, u4, u5, u6⟩, hy⟩ : ∃ z, rc m k = z := ⟨_, rfl⟩
        rw [hx] at x1 x2 x3 x4 x5 x6 hst hne
        rw [hy] at y1 y2 y3 y4 y5 y6 hst hne
        dsimp only at x1 x2 x3 x4 x5 x6 y1 y2 y3 y4 y5 y6
        have HS := Lib.hid hst
        have HNE := Lib.hid hne
        clear hst hne hx hy
        have hi1 : ¬ (k : Int) < 0 := by omega
        have hi2 : (k : Int) < (l.length : Int) := by omega
        have hi3 : (k : Int) < (m.length : Int) := by omega
        go_wp2_with fail
        have kx1 := later_cell x1
        have kx2 := later_cell x2
        have kx3 := later_cell x3
        have kx4 := later_cell x4
        have kx5 := later_cell x5
        have kx6 := later_cell x6
        have ky1 := later_cell y1
        have ky2 := later_cell y2
        have ky3 := later_cell y3
        have ky4 := later_cell y4
        have ky5 := later_cell y5
        have ky6 := later_cell y6
        clear x1 x2 x3 x4 x5 x6 y1 y2 y3 y4 y5 y6
        by_cases h1 : v1 = u1
        · subst h1
          by_cases h2 : v2 = u2
          · subst h2
            by_cases h3 : v3 = u3
            · subst h3
              by_cases h4 : v4 = u4
              · subst h4
                by_cases h5 : v5 = u5
                · subst h5
                  by_cases h6 : v6 = u6
                  · subst h6
                    have HXY := Lib.hid (HS.out.2 rfl)
                    refine wp_region_later wr (by kernel_rfl) (by kernel_rfl) (Below.refl _ _) ?_
                    repeat (go_big_quiet_step (fail))
                    refine wpQuiet_nil ?_
                    rintro ⟨W2, hB⟩
                    dsimp only
                    have hbn : Below w.heap.size w W2 := bthen hb0 hB
                    clear kx1 kx2 kx3 kx4 kx5 kx6 ky1 ky2 ky3 ky4 ky5 ky6 hB hb0
                    go_wp2
                    go_roundw
                    case rel => exact ⟨k + 1, by omega, by go_num, HXY.out, hbn⟩
                    case measure => simp [intOf]; omega
                  · have HXY := Lib.hid (HNE.out (by intro e; injection e with e1 e2 e3 e4 e5 e6; exact h6 e6))
                    refine wp_region_later wr (by kernel_rfl) (by kernel_rfl) (Below.refl _ _) ?_
                    repeat (go_big_quiet_step (fail))
                    refine wpQuiet_nil ?_
                    rintro ⟨W2, hB⟩
                    dsimp only
                    have hbn : Below w.heap.size w W2 := bthen hb0 hB
                    clear kx1 kx2 kx3 kx4 kx5 kx6 ky1 ky2 ky3 ky4 ky5 ky6 hB hb0
                    go_wp2
                    go_ret
                    exact ⟨by rw [HXY.out]; rfl, hbn⟩
                · have HXY := Lib.hid (HNE.out (by intro e; injection e with e1 e2 e3 e4 e5 e6; exact h5 e5))
                  refine wp_region_later wr (by kernel_rfl) (by kernel_rfl) (Below.refl _ _) ?_
                  repeat (go_big_quiet_step (fail))
                  refine wpQuiet_nil ?_
                  rintro ⟨W2, hB⟩
                  dsimp only
                  have hbn : Below w.heap.size w W2 := bthen hb0 hB
                  clear kx1 kx2 kx3 kx4 kx5 kx6 ky1 ky2 ky3 ky4 ky5 ky6 hB hb0
                  go_wp2
                  go_ret
                  exact ⟨by rw [HXY.out]; rfl, hbn⟩
              · have HXY := Lib.hid (HNE.out (by intro e; injection e with e1 e2 e3 e4 e5 e6; exact h4 e4))
                refine wp_region_later wr (by kernel_rfl) (by kernel_rfl) (Below.refl _ _) ?_
                repeat (go_big_quiet_step (fail))
                refine wpQuiet_nil ?_
                rintro ⟨W2, hB⟩
                dsimp only
                have hbn : Below w.heap.size w W2 := bthen hb0 hB
                clear kx1 kx2 kx3 kx4 kx5 kx6 ky1 ky2 ky3 ky4 ky5 ky6 hB hb0
                go_wp2
                go_ret
                exact ⟨by rw [HXY.out]; rfl, hbn⟩
            · have HXY := Lib.hid (HNE.out (by intro e; injection e with e1 e2 e3 e4 e5 e6; exact h3 e3))
              refine wp_region_later wr (by kernel_rfl) (by kernel_rfl) (Below.refl _ _) ?_
              repeat (go_big_quiet_step (fail))
              refine wpQuiet_nil ?_
              rintro ⟨W2, hB⟩
              dsimp only
              have hbn : Below w.heap.size w W2 := bthen hb0 hB
              clear kx1 kx2 kx3 kx4 kx5 kx6 ky1 ky2 ky3 ky4 ky5 ky6 hB hb0
              go_wp2
              go_ret
              exact ⟨by rw [HXY.out]; rfl, hbn⟩
          · have HXY := Lib.hid (HNE.out (by intro e; injection e with e1 e2 e3 e4 e5 e6; exact h2 e2))
            refine wp_region_later wr (by kernel_rfl) (by kernel_rfl) (Below.refl _ _) ?_
            repeat (go_big_quiet_step (fail))
            refine wpQuiet_nil ?_
            rintro ⟨W2, hB⟩
            dsimp only
            have hbn : Below w.heap.size w W2 := bthen hb0 hB
            clear kx1 kx2 kx3 kx4 kx5 kx6 ky1 ky2 ky3 ky4 ky5 ky6 hB hb0
            go_wp2
            go_ret
            exact ⟨by rw [HXY.out]; rfl, hbn⟩
        · have HXY := Lib.hid (HNE.out (by intro e; injection e with e1 e2 e3 e4 e5 e6; exact h1 e1))
          refine wp_region_later wr (by kernel_rfl) (by kernel_rfl) (Below.refl _ _) ?_
          repeat (go_big_quiet_step (fail))
          refine wpQuiet_nil ?_
          rintro ⟨W2, hB⟩
          dsimp only
          have hbn : Below w.heap.size w W2 := bthen hb0 hB
          clear kx1 kx2 kx3 kx4 kx5 kx6 ky1 ky2 ky3 ky4 ky5 ky6 hB hb0
          go_wp2
          go_ret
          exact ⟨by rw [HXY.out]; rfl, hbn⟩
      · obtain rfl : k = l.length := by omega
        have e1 : decide (l = m) = true := by
          have h1 := HT.out
          rw [List.take_length, List.take_of_length_le (by have := HN.out; omega)] at h1
          simpa using h1
        have E1 := Lib.hid e1
        clear e1
        go_wp2
        go_ret
        exact ⟨by rw [E1.out]; rfl, hb0⟩
  · have e1 : decide (l = m) = false := by simp; intro e; exact hn (by rw [e])
    have hn' : ¬ (l.length : Int) = m.length := by omega
    have E1 := Lib.hid e1
    clear e1 hn
    go_enter Try.func31, Try.ntmps31
    go_wp2
    go_ret
    exact ⟨by rw [E1.out]; rfl, by go_grown⟩
end Go.Proofs.Ytokpjaodchcheaa
