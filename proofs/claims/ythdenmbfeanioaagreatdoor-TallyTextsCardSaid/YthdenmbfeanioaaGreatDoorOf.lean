/- This text proves which re-counts the iterator 'of' of package tally yields, and with what. -/
import Derived.Test.YthdenmbfeanioaaGreatDoorIter
import Derived.Test.YthdenmbfeanioaaGreatDoorAsks
namespace Go.Proofs.YthdenmbfeanioaaGreatDoor
open Go.RowKit Go.Shelf
attribute [local go_sem] Oper.semAt_some

theorem c_of (a : Option Addr) (n cap : Nat) (shep known : Int) (w : World) :
    Calls Tryz.prog 46 #[.slice a n cap, .int .i64 shep, .int .i64 known] w fun e w' =>
      e = .returned (.func (.func 63) #[] #[.pointer (some ⟨w.heap.size, 0, none⟩), .pointer (some ⟨w.heap.size + 2, 0, none⟩), .pointer (some ⟨w.heap.size + 1, 0, none⟩)]) ∧
      w' = ((w.alloc (.cells #[.slice a n cap] 49)).alloc (.cells #[.int .i64 shep] 3)).alloc (.cells #[.int .i64 known] 3) := by
  have hmf : ∀ (fn : Fn) (first cap : Array Value) (w : World), (Instr.makeFunc fn first cap).run Tryz.prog w = .ok (.func fn first cap) w := fun _ _ _ _ => rfl
  go_enter Tryz.func46, Tryz.ntmps46
  go_wp2
  go_ret
  exact ⟨rfl, rfl⟩

/-- What a re-count asks, as the iterator yields it. -/
abbrev askV (x : Rc) : Value := .agg #[.int .i64 (missV x.t x.n).1, .int .i64 (doubV x.t x.n).1, .bool ((missV x.t x.n).2 && (doubV x.t x.n).2)]
def ofShep (shep : Int) (l : List Rc) : List Rc := l.filter fun x => x.s == shep

structure BoxRc (w : World) (b : Nat) (x : Rc) : Prop where
  i : w.cell? ⟨b, 0, none⟩ = some (.int .i64 x.i)
  d : w.cell? ⟨b, 1, none⟩ = some (.int .i64 x.d)
  k : w.cell? ⟨b, 2, none⟩ = some (.int .i64 x.k)
  s : w.cell? ⟨b, 3, none⟩ = some (.int .i64 x.s)
  t : w.cell? ⟨b, 4, none⟩ = some (.int .i64 x.t)
  n : w.cell? ⟨b, 5, none⟩ = some (.int .i64 x.n)
theorem BoxRc.kept {O : Nat → Prop} {w w1 : World} {b : Nat} {x : Rc} (h : BoxRc w b x) (hb : Kept O w w1) (hn : ¬ O b) : BoxRc w1 b x :=
  ⟨hb.cell hn h.i, hb.cell hn h.d, hb.cell hn h.k, hb.cell hn h.s, hb.cell hn h.t, hb.cell hn h.n⟩
theorem BoxRc.later {w w1 : World} {b : Nat} {x : Rc} (h : BoxRc w b x) (hb : Below w.heap.size w w1) : BoxRc w1 b x :=
  h.kept (O := fun _ => False) (Kept.of_below hb) (fun h => h)
theorem ofShep_yes {shep : Int} {pre : List Rc} {x : Rc} (h : x.s = shep) : ofShep shep (pre ++ [x]) = ofShep shep pre ++ [x] := by simp [ofShep, h]
theorem ofShep_no {shep : Int} {pre : List Rc} {x : Rc} (h : ¬ x.s = shep) : ofShep shep (pre ++ [x]) = ofShep shep pre := by simp [ofShep, h]

set_option maxRecDepth 100000 in
set_option maxHeartbeats 8000000 in
theorem iter_of (Bl Bk Bs : Nat) (l : List Rc) (a : Option Addr) (cap : Nat) (known shep : Int) (mine : Nat → Prop) (w : World) (hmlt : ∀ k, mine k → k < w.heap.size) (hmk : mine Bs) (hms : l ≠ [] → ∀ b o, a = some ⟨b, o, none⟩ → mine b)
    (hl : w.cell? ⟨Bl, 0, none⟩ = some (.slice a l.length cap)) (hk : w.cell? ⟨Bk, 0, none⟩ = some (.int .i64 known)) (hs : w.cell? ⟨Bs, 0, none⟩ = some (.int .i64 shep)) (hr : Recs w a l) :
    Iter 63 #[.pointer (some ⟨Bl, 0, none⟩), .pointer (some ⟨Bk, 0, none⟩), .pointer (some ⟨Bs, 0, none⟩)] (fun x : Rc => #[x.v, askV x]) (ofShep shep (cnt known l)) mine w := by
  intro lp J Jx W O0 hW hJ hJx hJlt hO0 hY h0
  have hl' := ((bcell hW).1 _ _ (cell_lt hl)).trans hl
  have hk' := ((bcell hW).1 _ _ (cell_lt hk)).trans hk
  have hs' := ((bcell hW).1 _ _ (cell_lt hs)).trans hs
  have HR := Lib.hid (hr.later hW)
  clear hl hk hr hs
  refine callsIn_wide.1 (callsIn_of_wp_marks (n := 9) Tryz.func63 rfl trivial ?_ rfl)
  refine wpIn_wide.2 ?_
  simp only [Tryz.ntmps63, List.size_toArray, List.length_cons, List.length_nil, Nat.reduceAdd, Nat.reduceSub, Array.replicate_succ, Array.replicate_zero, List.push_toArray, List.append_toArray, List.nil_append, List.cons_append]
  go_upto_region 1 with (fail)
  go_name_world Wa hWa
  have hba : Below W.heap.size W Wa := by subst hWa; go_grown
  have hyb : Wa.cell? ⟨W.heap.size, 0, none⟩ = some (.func (.yield lp) #[] #[]) := by subst hWa; go_simp
  have hal := ((bcell hba).1 _ _ (cell_lt hl')).trans hl'
  have hak := ((bcell hba).1 _ _ (cell_lt hk')).trans hk'
  have has := ((bcell hba).1 _ _ (cell_lt hs')).trans hs'
  clear hWa
  go_wp2_with fail
  refine (c_counting _ _ _ _ _).mono ?_
  rintro e W' ⟨rfl, rfl⟩
  go_wp2_with fail
  go_name_world W0 hW0
  have hb0 : Below Wa.heap.size Wa W0 := by subst hW0; go_grown
  have hz0 : W0.heap.size = Wa.heap.size + 2 := by subst hW0; simp
  have h1l : W0.cell? ⟨Wa.heap.size, 0, none⟩ = some (.slice a l.length cap) := by subst hW0; go_simp
  have h1k : W0.cell? ⟨Wa.heap.size + 1, 0, none⟩ = some (.int .i64 known) := by subst hW0; go_simp
  clear hW0
  have hbw : Below W.heap.size W W0 := bthen hba hb0
  have hzw := hbw.size
  have hzaw := hba.size
  have hzww := hW.size
  have hz2 := cell_lt hyb
  let fixed : Nat → Prop := fun k => mine k ∨ k = W.heap.size
  have hfix : ∀ k, fixed k → k < W0.heap.size := by
    rintro k (h | rfl)
    · have := hmlt k h; omega
    · omega
  have hO0lt := hJlt _ _ _ h0
  refine wp_range (encs := fun x : Rc => #[x.v]) (ys := cnt known l) (mine := fun k => mine k ∨ k = Wa.heap.size ∨ k = Wa.heap.size + 1) rfl (enters_of Tryz.func76 (by kernel_rfl) rfl) ?hm
    (iter_counting (Wa.heap.size) (Wa.heap.size + 1) l a cap known _ W0 ?hm2 (.inr (.inr rfl)) (fun hne b o h => .inl (hms hne b o h)) h1l h1k (HR.out.later hbw)) (fun _ => rfl) O0 ?ho
    (fun pre O A => ∃ Oj : Nat → Prop, (∀ k, Oj k → O k) ∧ J (ofShep shep pre) Oj A ∧ (∀ k, O k → k < A.heap.size) ∧ (∀ k, fixed k → ¬ O k) ∧ Kept (fun k => ¬ fixed k) W0 A)
    (fun c O A => c = .ret ∧ ∃ Oj : Nat → Prop, (∀ k, Oj k → O k) ∧ Jx Oj A) ?hI ?hIx ?hlt ?h0
    (fun pre x a' O A => ∃ Bx, ((∃ Oj : Nat → Prop, (∀ k, Oj k → O k) ∧ J (ofShep shep pre) Oj A ∧ (∀ k, O k → k < A.heap.size) ∧ (∀ k, fixed k → ¬ O k) ∧ Kept (fun k => ¬ fixed k) W0 A)) ∧ O Bx ∧ BoxRc A Bx x ∧
      a' = { tmps := #[.func (.yield lp) #[] #[], .pointer (some ⟨Bl, 0, none⟩), .pointer (some ⟨Bk, 0, none⟩), .pointer (some ⟨Bs, 0, none⟩), .pointer (some ⟨W.heap.size, 0, none⟩), .pointer (some ⟨Bx, 0, none⟩), undef, undef, undef, undef, .slice a l.length cap, .int .i64 known, .func (.func 76) #[] #[.pointer (some ⟨Wa.heap.size, 0, none⟩), .pointer (some ⟨Wa.heap.size + 1, 0, none⟩)], x.v,
        undef, undef, undef, undef, undef, undef, undef, undef, undef, undef, undef, undef, undef, undef, undef, undef, undef, undef, undef, undef, undef, undef, undef, undef, undef, undef, undef, undef, undef, undef, undef, undef, undef, undef], defers := [] }) ?hM ?assign ?body ?done ?stop
  case hm =>
    rintro k (h | rfl | rfl)
    · have := hmlt k h; omega
    · omega
    · omega
  case hm2 =>
    rintro k (h | rfl | rfl)
    · have := hmlt k h; omega
    · omega
    · omega
  case ho => 
    rintro k (h | rfl | rfl) hx
    · exact hO0 k h hx
    · have := hO0lt _ hx; omega
    · have := hO0lt _ hx; omega
  case hI =>
    rintro pre O A C ⟨Oj, h1, h2, h3, h4, h5⟩ hk
    exact ⟨Oj, h1, hJ _ _ _ _ h2 (hk.wider fun j _ hj => ⟨by omega, fun x => hj.2 (h1 j x)⟩), fun k hx => Nat.lt_of_lt_of_le (h3 k hx) hk.size, h4, h5.trans hk fun j hj hx hf => by have := hfix j hf; omega⟩
  case hIx =>
    rintro c O A C ⟨hc, Oj, h1, h2⟩ hk
    exact ⟨hc, Oj, h1, hJx _ _ _ h2 (hk.wider fun j _ hj => ⟨by omega, fun x => hj.2 (h1 j x)⟩)⟩
  case hlt => rintro pre O A ⟨Oj, h1, h2, h3, h4, h5⟩; exact h3
  case h0 =>
    refine ⟨O0, fun _ h => h, hJ _ _ _ _ h0 ((Kept.of_below (bthen hba hb0)).wider fun j _ h => h), fun k hx => ?_, ?_, Kept.refl _ _⟩
    · have := hO0lt k hx; omega
    · rintro k (h | rfl) hx
      · exact hO0 k h hx
      · have := hO0lt _ hx; omega
  case hM =>
    rintro pre x a' O A C ⟨Bx, ⟨Oj, h1, h2, h3, h4, h5⟩, hx, hbx, rfl⟩ hk
    exact ⟨Bx, ⟨Oj, h1, hJ _ _ _ _ h2 (hk.wider fun j _ hj => ⟨by omega, fun x => hj.2 (h1 j x)⟩), fun k hx => Nat.lt_of_lt_of_le (h3 k hx) hk.size, h4, h5.trans hk fun j hj hx hf => by have := hfix j hf; omega⟩, hx, hbx.kept hk (fun h => h.2 hx), rfl⟩
  case assign =>
    rintro lq pre x O A K ⟨Oj, h1, h2, h3, h4, h5⟩ hpre hK
    gi_wp2
    have hsz := h5.size
    refine hK _ (fun k => O k ∨ k = A.heap.size) _ ?_ ((Kept.refl _ _).alloc _) ⟨A.heap.size, ⟨Oj, fun k h => .inl (h1 k h), (hJ _).alloc h2 _, ?_, ?_, h5.alloc _⟩, .inr rfl, ?_, rfl⟩
    · rintro k (h | rfl)
      · exact .inl h
      · exact .inr (Nat.le_refl _)
    · rintro k (h | rfl)
      · have := h3 k h; simp; omega
      · simp
    · rintro k hf (h | rfl)
      · exact h4 k hf h
      · have := hfix _ hf; omega
    · exact ⟨by go_simp, by go_simp, by go_simp, by go_simp, by go_simp, by go_simp⟩
  case body =>
    rintro lq pre x a' O A hlq hOlq ⟨Bx, ⟨Oj, h1, h2, h3, h4, h5⟩, hx, hbx, rfl⟩ hpre
    obtain ⟨x1, x2, x3, x4, x5, x6⟩ := hbx
    have cs : A.cell? ⟨Bs, 0, none⟩ = some (.int .i64 shep) := h5.cell (fun h => h (.inl hmk)) (((bcell hb0).1 _ _ (cell_lt has)).trans has)
    have cy : A.cell? ⟨W.heap.size, 0, none⟩ = some (.func (.yield lp) #[] #[]) := h5.cell (fun h => h (.inr rfl)) (((bcell hb0).1 _ _ (cell_lt hyb)).trans hyb)
    have HH := Lib.hid (And.intro h1 (And.intro h2 (And.intro h3 (And.intro h4 h5))))
    have HPRE := Lib.hid hpre
    clear h1 h2 h3 h4 h5 hpre
    have HPX : ofShep shep (pre ++ [x]) <+: ofShep shep (cnt known l) := HPRE.out.filter _
    have HPX2 := Lib.hid HPX
    clear HPX
    by_cases hxs : x.s = shep
    · have hxs' : (x.s == shep) = true := by simpa using hxs
      have HPY := Lib.hid (ofShep_yes (pre := pre) hxs)
      clear hxs
      have HY := Lib.hid hY
      clear hY
      cases hm2 : (missV x.t x.n).2
      · have HA : Hid (askV x = .agg #[.int .i64 (missV x.t x.n).1, .int .i64 (doubV x.t x.n).1, .bool false]) := by unfold askV; rw [hm2]; rfl
        gi_wp2_with (first | (refine ⟨trivial, ?_⟩; gi_at_call 19; refine (CallsIn.inRound lq (callsIn_wide.2 (c_Misses _ _ _))).mono ?_; rintro e A1 ⟨rfl, hA1⟩; have hc := (bcell hA1).1; have x1n := (hc _ _ (cell_lt x1)).trans x1; clear x1; have x1 := x1n; clear x1n; have x2n := (hc _ _ (cell_lt x2)).trans x2; clear x2; have x2 := x2n; clear x2n; have x3n := (hc _ _ (cell_lt x3)).trans x3; clear x3; have x3 := x3n; clear x3n; have x4n := (hc _ _ (cell_lt x4)).trans x4; clear x4; have x4 := x4n; clear x4n; have x5n := (hc _ _ (cell_lt x5)).trans x5; clear x5; have x5 := x5n; clear x5n; have x6n := (hc _ _ (cell_lt x6)).trans x6; clear x6; have x6 := x6n; clear x6n; have csn := (hc _ _ (cell_lt cs)).trans cs; clear cs; have cs := csn; clear csn; have cyn := (hc _ _ (cell_lt cy)).trans cy; clear cy; have cy := cyn; clear cyn; clear hc) | (refine ⟨trivial, ?_⟩; gi_at_call 20; refine (CallsIn.inRound lq (callsIn_wide.2 (c_Doubles _ _ _))).mono ?_; rintro e A2 ⟨rfl, hA2⟩; have hc := (bcell hA2).1; have x1n := (hc _ _ (cell_lt x1)).trans x1; clear x1; have x1 := x1n; clear x1n; have x2n := (hc _ _ (cell_lt x2)).trans x2; clear x2; have x2 := x2n; clear x2n; have x3n := (hc _ _ (cell_lt x3)).trans x3; clear x3; have x3 := x3n; clear x3n; have x4n := (hc _ _ (cell_lt x4)).trans x4; clear x4; have x4 := x4n; clear x4n; have x5n := (hc _ _ (cell_lt x5)).trans x5; clear x5; have x5 := x5n; clear x5n; have x6n := (hc _ _ (cell_lt x6)).trans x6; clear x6; have x6 := x6n; clear x6n; have csn := (hc _ _ (cell_lt cs)).trans cs; clear cs; have cs := csn; clear csn; have cyn := (hc _ _ (cell_lt cy)).trans cy; clear cy; have cy := cyn; clear cyn; clear hc))
        have hK2 : Kept Oj A A2 := Kept.of_below (bthen hA1 hA2)
        obtain ⟨h1, h2, h3, h4, h5⟩ := HH.out
        have hj2 : J (ofShep shep pre) Oj A2 := hJ _ _ _ _ h2 ((Kept.of_below (bthen hA1 hA2)).wider fun j _ h => h)
        have hyy := HY.out _ x Oj A2 hj2 (by rw [← HPY.out]; exact HPX2.out)
        rw [HA.out] at hyy
        obtain ⟨fn, tmps, assign, body, hy, hR⟩ := hyy
        have HH2 := Lib.hid (And.intro h1 (And.intro h2 (And.intro h3 (And.intro h4 h5))))
        have HK2 := Lib.hid hK2
        clear h1 h2 h3 h4 h5 hK2 hj2
        go_simp
        refine (RoundIn.deepIn hR).mono ?_
        rintro e A3 ⟨O', hO', hK3, ⟨rfl, hJ3⟩ | ⟨rfl, hJx3⟩⟩
        · gi_wp2
          obtain ⟨h1, h2, h3, h4, h5⟩ := HH2.out
          have hz2 := HK2.out.size
          have hz5 := h5.size
          refine ⟨O', fun k hk => ?_, (HK2.out.wider fun j _ h => h1 j h).trans (hK3.wider fun j _ h => h1 j h) (fun j _ h => h), O', fun _ h => h, by rw [HPY.out]; exact hJ3, hJlt _ _ _ hJ3, fun k hf hk => ?_, (h5.trans (HK2.out) (fun j _ h hf => h4 j hf (h1 j h))).trans hK3 (fun j _ h hf => h4 j hf (h1 j h))⟩
          · rcases hO' k hk with h | h
            · exact .inl (h1 k h)
            · exact .inr (by omega)
          · rcases hO' k hk with h | h
            · exact h4 k hf (h1 k h)
            · have := hfix k hf; omega
        · gi_wp2
          obtain ⟨h1, h2, h3, h4, h5⟩ := HH2.out
          have hz2 := HK2.out.size
          refine ⟨O', fun k hk => ?_, (HK2.out.wider fun j _ h => h1 j h).trans (hK3.wider fun j _ h => h1 j h) (fun j _ h => h), rfl, O', fun _ h => h, hJx3⟩
          rcases hO' k hk with h | h
          · exact .inl (h1 k h)
          · exact .inr (by omega)
      · have HA : Hid (askV x = .agg #[.int .i64 (missV x.t x.n).1, .int .i64 (doubV x.t x.n).1, .bool (doubV x.t x.n).2]) := by unfold askV; rw [hm2]; rfl
        gi_wp2_with (first | (refine ⟨trivial, ?_⟩; gi_at_call 19; refine (CallsIn.inRound lq (callsIn_wide.2 (c_Misses _ _ _))).mono ?_; rintro e A1 ⟨rfl, hA1⟩; have hc := (bcell hA1).1; have x1n := (hc _ _ (cell_lt x1)).trans x1; clear x1; have x1 := x1n; clear x1n; have x2n := (hc _ _ (cell_lt x2)).trans x2; clear x2; have x2 := x2n; clear x2n; have x3n := (hc _ _ (cell_lt x3)).trans x3; clear x3; have x3 := x3n; clear x3n; have x4n := (hc _ _ (cell_lt x4)).trans x4; clear x4; have x4 := x4n; clear x4n; have x5n := (hc _ _ (cell_lt x5)).trans x5; clear x5; have x5 := x5n; clear x5n; have x6n := (hc _ _ (cell_lt x6)).trans x6; clear x6; have x6 := x6n; clear x6n; have csn := (hc _ _ (cell_lt cs)).trans cs; clear cs; have cs := csn; clear csn; have cyn := (hc _ _ (cell_lt cy)).trans cy; clear cy; have cy := cyn; clear cyn; clear hc) | (refine ⟨trivial, ?_⟩; gi_at_call 20; refine (CallsIn.inRound lq (callsIn_wide.2 (c_Doubles _ _ _))).mono ?_; rintro e A2 ⟨rfl, hA2⟩; have hc := (bcell hA2).1; have x1n := (hc _ _ (cell_lt x1)).trans x1; clear x1; have x1 := x1n; clear x1n; have x2n := (hc _ _ (cell_lt x2)).trans x2; clear x2; have x2 := x2n; clear x2n; have x3n := (hc _ _ (cell_lt x3)).trans x3; clear x3; have x3 := x3n; clear x3n; have x4n := (hc _ _ (cell_lt x4)).trans x4; clear x4; have x4 := x4n; clear x4n; have x5n := (hc _ _ (cell_lt x5)).trans x5; clear x5; have x5 := x5n; clear x5n; have x6n := (hc _ _ (cell_lt x6)).trans x6; clear x6; have x6 := x6n; clear x6n; have csn := (hc _ _ (cell_lt cs)).trans cs; clear cs; have cs := csn; clear csn; have cyn := (hc _ _ (cell_lt cy)).trans cy; clear cy; have cy := cyn; clear cyn; clear hc))
        have hK2 : Kept Oj A A2 := Kept.of_below (bthen hA1 hA2)
        obtain ⟨h1, h2, h3, h4, h5⟩ := HH.out
        have hj2 : J (ofShep shep pre) Oj A2 := hJ _ _ _ _ h2 ((Kept.of_below (bthen hA1 hA2)).wider fun j _ h => h)
        have hyy := HY.out _ x Oj A2 hj2 (by rw [← HPY.out]; exact HPX2.out)
        rw [HA.out] at hyy
        obtain ⟨fn, tmps, assign, body, hy, hR⟩ := hyy
        have HH2 := Lib.hid (And.intro h1 (And.intro h2 (And.intro h3 (And.intro h4 h5))))
        have HK2 := Lib.hid hK2
        clear h1 h2 h3 h4 h5 hK2 hj2
        go_simp
        refine (RoundIn.deepIn hR).mono ?_
        rintro e A3 ⟨O', hO', hK3, ⟨rfl, hJ3⟩ | ⟨rfl, hJx3⟩⟩
        · gi_wp2
          obtain ⟨h1, h2, h3, h4, h5⟩ := HH2.out
          have hz2 := HK2.out.size
          have hz5 := h5.size
          refine ⟨O', fun k hk => ?_, (HK2.out.wider fun j _ h => h1 j h).trans (hK3.wider fun j _ h => h1 j h) (fun j _ h => h), O', fun _ h => h, by rw [HPY.out]; exact hJ3, hJlt _ _ _ hJ3, fun k hf hk => ?_, (h5.trans (HK2.out) (fun j _ h hf => h4 j hf (h1 j h))).trans hK3 (fun j _ h hf => h4 j hf (h1 j h))⟩
          · rcases hO' k hk with h | h
            · exact .inl (h1 k h)
            · exact .inr (by omega)
          · rcases hO' k hk with h | h
            · exact h4 k hf (h1 k h)
            · have := hfix k hf; omega
        · gi_wp2
          obtain ⟨h1, h2, h3, h4, h5⟩ := HH2.out
          have hz2 := HK2.out.size
          refine ⟨O', fun k hk => ?_, (HK2.out.wider fun j _ h => h1 j h).trans (hK3.wider fun j _ h => h1 j h) (fun j _ h => h), rfl, O', fun _ h => h, hJx3⟩
          rcases hO' k hk with h | h
          · exact .inl (h1 k h)
          · exact .inr (by omega)
    · have hxs' : (x.s == shep) = false := by simpa using hxs
      have HPN := Lib.hid (ofShep_no (pre := pre) hxs)
      clear hxs
      gi_wp2_with (first | (refine ⟨trivial, ?_⟩; gi_at_call 19; refine (CallsIn.inRound lq (callsIn_wide.2 (c_Misses _ _ _))).mono ?_; rintro e A1 ⟨rfl, hA1⟩; have hc := (bcell hA1).1; have x1n := (hc _ _ (cell_lt x1)).trans x1; clear x1; have x1 := x1n; clear x1n; have x2n := (hc _ _ (cell_lt x2)).trans x2; clear x2; have x2 := x2n; clear x2n; have x3n := (hc _ _ (cell_lt x3)).trans x3; clear x3; have x3 := x3n; clear x3n; have x4n := (hc _ _ (cell_lt x4)).trans x4; clear x4; have x4 := x4n; clear x4n; have x5n := (hc _ _ (cell_lt x5)).trans x5; clear x5; have x5 := x5n; clear x5n; have x6n := (hc _ _ (cell_lt x6)).trans x6; clear x6; have x6 := x6n; clear x6n; have csn := (hc _ _ (cell_lt cs)).trans cs; clear cs; have cs := csn; clear csn; have cyn := (hc _ _ (cell_lt cy)).trans cy; clear cy; have cy := cyn; clear cyn; clear hc) | (refine ⟨trivial, ?_⟩; gi_at_call 20; refine (CallsIn.inRound lq (callsIn_wide.2 (c_Doubles _ _ _))).mono ?_; rintro e A2 ⟨rfl, hA2⟩; have hc := (bcell hA2).1; have x1n := (hc _ _ (cell_lt x1)).trans x1; clear x1; have x1 := x1n; clear x1n; have x2n := (hc _ _ (cell_lt x2)).trans x2; clear x2; have x2 := x2n; clear x2n; have x3n := (hc _ _ (cell_lt x3)).trans x3; clear x3; have x3 := x3n; clear x3n; have x4n := (hc _ _ (cell_lt x4)).trans x4; clear x4; have x4 := x4n; clear x4n; have x5n := (hc _ _ (cell_lt x5)).trans x5; clear x5; have x5 := x5n; clear x5n; have x6n := (hc _ _ (cell_lt x6)).trans x6; clear x6; have x6 := x6n; clear x6n; have csn := (hc _ _ (cell_lt cs)).trans cs; clear cs; have cs := csn; clear csn; have cyn := (hc _ _ (cell_lt cy)).trans cy; clear cy; have cy := cyn; clear cyn; clear hc))
      refine ⟨fun _ h => (by cases h), ?_⟩
      gi_wp2
      obtain ⟨h1, h2, h3, h4, h5⟩ := HH.out
      have hK2 : Kept Oj A A2 := Kept.of_below (bthen hA1 hA2)
      have hj2 : J (ofShep shep pre) Oj A2 := hJ _ _ _ _ h2 ((Kept.of_below (bthen hA1 hA2)).wider fun j _ h => h)
      have hz2 := hK2.size
      exact ⟨O, fun k hk => .inl hk, Kept.of_below (bthen hA1 hA2), Oj, h1, by rw [HPN.out]; exact hj2, fun k hk => Nat.lt_of_lt_of_le (h3 k hk) hz2, h4, h5.trans hK2 (fun j _ h hf => h4 j hf (h1 j h))⟩
  case done =>
    rintro D O A hD hOD ⟨Oj, h1, h2, h3, h4, h5⟩ hK
    go_wp2
    refine ⟨by simp, .inl ⟨_, _, rfl, run_takeDeferred hK, ?_⟩⟩
    exact ⟨_, results_none rfl _ _ _, ⟨_, rfl⟩, Oj, .inl ((hJ _).put h2 (by omega) (fun h => hOD (h1 _ h)) _)⟩
  case stop =>
    rintro D c O A hD hOD ⟨rfl, Oj, h1, h2⟩ hK
    go_wp2
    refine ⟨by simp, .inl ⟨_, _, rfl, run_takeDeferred hK, ?_⟩⟩
    exact ⟨_, results_none rfl _ _ _, ⟨_, rfl⟩, Oj, .inr (hJx.put h2 (by omega) (fun h => hOD (h1 _ h)) _)⟩
end Go.Proofs.YthdenmbfeanioaaGreatDoor
