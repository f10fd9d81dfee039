/- This text is a part of the proof: ReadIn. -/
import Derived.Test.YtlppdgaogdpajaaGreatDoorK22
set_option maxRecDepth 100000
set_option maxHeartbeats 4000000
namespace Go.Proofs.YtlppdgaogdpajaaGreatDoor
open Go.RowKit Go.Shelf
attribute [local go_sem] Oper.semAt_some
def RpAt (w : World) (b : Nat) (x : Rp) : Prop := ∀ j u, (rpC x)[j]? = some u → w.cell? ⟨b, j, none⟩ = some u
structure ReadIn (m : Fm) (s : ByteArray) (ps px pf : Nat) (w0 w : World) : Prop where
 lib : LibW w0
 fell : m.In w0
 right : checkE m.f = 0
 size : s.size ≤ 1000000
 b : Below w0.heap.size w0 w
 x : w0.heap.size ≤ px
 cs : w.cell? ⟨ps, 0, none⟩ = some (.string s)
 q0 : w.cell? ⟨pf, 0, none⟩ = some (.int .i64 m.f.ticks)
 q1 : w.cell? ⟨pf, 1, none⟩ = some (.int .i64 m.f.yields)
 q2 : w.cell? ⟨pf, 2, none⟩ = some (.slice m.pa m.f.places.length m.pc)
 q3 : w.cell? ⟨pf, 3, none⟩ = some (.slice m.ga m.f.gates.length m.gc)
 xs : RpAt w px rpZ
 fx : ∀ j, j < 10 → w.frozen? ⟨px, j, none⟩ = false
 n1 : ps ≠ px
 n2 : pf ≠ px
def ReadOut (m : Fm) (s : ByteArray) (px : Nat) (w0 w : World) (e : Ending) (w' : World) : Prop :=
 e = endV (readErr m.f s) ∧ Kept (fun k => k = px) w w' ∧ Below w0.heap.size w0 w' ∧ ∀ x, readErr m.f s = 0 → meantO m.f (wordsB s) = some x → RpAt w' px x
theorem ReadOut.no {m : Fm} {s : ByteArray} {px : Nat} {w0 w w' : World} {L : List ByteArray} (hL : wordsB s = L) (h : meantO m.f L = none) (hk : Kept (fun k => k = px) w w') (hb : Below w0.heap.size w0 w') : ReadOut m s px w0 w (.panicked (givesUp 4)) w' := by
 have he := err_none (f := m.f) hL h
 refine ⟨by rw [he]; rfl, hk, hb, fun x h0 => ?_⟩
 rw [he] at h0
 cases h0
theorem ReadOut.judge {m : Fm} {s : ByteArray} {px : Nat} {w0 w w' : World} {L : List ByteArray} {x : Rp} (hL : wordsB s = L) (h : meantO m.f L = some x) (hj : ¬ judgeE m.f x = 0) (hk : Kept (fun k => k = px) w w') (hb : Below w0.heap.size w0 w') : ReadOut m s px w0 w (.panicked (givesUp (judgeE m.f x))) w' := by
 have he := err_some (f := m.f) hL h
 rw [if_pos hj] at he
 refine ⟨by rw [he, endV_no hj], hk, hb, fun x h0 => ?_⟩
 rw [he] at h0
 exact absurd h0 hj
theorem ReadOut.line {m : Fm} {s : ByteArray} {px : Nat} {w0 w w' : World} {L : List ByteArray} {x : Rp} (hL : wordsB s = L) (h : meantO m.f L = some x) (hj : judgeE m.f x = 0) (hs : ¬ lineV m.f x = s) (hk : Kept (fun k => k = px) w w') (hb : Below w0.heap.size w0 w') : ReadOut m s px w0 w (.panicked (givesUp 4)) w' := by
 have he := err_some (f := m.f) hL h
 rw [if_neg (fun h => h hj), if_neg hs] at he
 refine ⟨by rw [he]; rfl, hk, hb, fun x h0 => ?_⟩
 rw [he] at h0
 cases h0
theorem ReadOut.ok {m : Fm} {s : ByteArray} {px : Nat} {w0 w w' : World} {L : List ByteArray} {x : Rp} (hL : wordsB s = L) (h : meantO m.f L = some x) (hj : judgeE m.f x = 0) (hs : lineV m.f x = s) (hk : Kept (fun k => k = px) w w') (hb : Below w0.heap.size w0 w') (hx : RpAt w' px x) : ReadOut m s px w0 w (.returned (.tuple #[])) w' := by
 have he := err_some (f := m.f) hL h
 rw [if_neg (fun h => h hj), if_pos hs] at he
 refine ⟨by rw [he]; rfl, hk, hb, fun y _ hy => ?_⟩
 rw [hL, h] at hy
 cases hy
 exact hx
theorem rpAt_of {w : World} {b : Nat} {x : Rp} (h0 : w.cell? ⟨b, 0, none⟩ = some (.int .i64 x.id)) (h1 : w.cell? ⟨b, 1, none⟩ = some (.int .i64 x.known)) (h2 : w.cell? ⟨b, 2, none⟩ = some (.int .u8 x.kind)) (h3 : w.cell? ⟨b, 3, none⟩ = some (.int .i64 x.owner)) (h4 : w.cell? ⟨b, 4, none⟩ = some (.string x.sort)) (h5 : w.cell? ⟨b, 5, none⟩ = some (.int .i64 x.plc)) (h6 : w.cell? ⟨b, 6, none⟩ = some (.int .i64 x.tick)) (h7 : w.cell? ⟨b, 7, none⟩ = some (.int .i64 x.low)) (h8 : w.cell? ⟨b, 8, none⟩ = some (.int .i64 x.high)) (h9 : w.cell? ⟨b, 9, none⟩ = some (.int .i64 x.void)) : RpAt w b x := by
 intro j u hj
 unfold rpC at hj
 have hl : j < 10 := (List.getElem?_eq_some_iff.1 hj).1
 match j, hl with
 | 0, _ => cases hj; exact h0
 | 1, _ => cases hj; exact h1
 | 2, _ => cases hj; exact h2
 | 3, _ => cases hj; exact h3
 | 4, _ => cases hj; exact h4
 | 5, _ => cases hj; exact h5
 | 6, _ => cases hj; exact h6
 | 7, _ => cases hj; exact h7
 | 8, _ => cases hj; exact h8
 | 9, _ => cases hj; exact h9
structure RpBox (w : World) (b : Nat) (x : Rp) : Prop where
 at' : RpAt w b x
 fz : ∀ j, j < 10 → w.frozen? ⟨b, j, none⟩ = false
theorem RpBox.later {w w1 : World} {b : Nat} {x : Rp} (h : RpBox w b x) (hb : Below w.heap.size w w1) : RpBox w1 b x :=
 ⟨fun j u hj => later_of hb (h.at' j u hj), fun j hj => later_off hb (h.at' j _ (List.getElem?_eq_getElem (l := rpC x) (by rw [rpC_len]; exact hj))) (h.fz j hj)⟩
theorem RpBox.cells {w : World} {b : Nat} {x : Rp} (h : RpBox w b x) : w.cell? ⟨b, 0, none⟩ = some (.int .i64 x.id) ∧ w.cell? ⟨b, 1, none⟩ = some (.int .i64 x.known) ∧ w.cell? ⟨b, 2, none⟩ = some (.int .u8 x.kind) ∧ w.cell? ⟨b, 3, none⟩ = some (.int .i64 x.owner) ∧ w.cell? ⟨b, 4, none⟩ = some (.string x.sort) ∧ w.cell? ⟨b, 5, none⟩ = some (.int .i64 x.plc) ∧ w.cell? ⟨b, 6, none⟩ = some (.int .i64 x.tick) ∧ w.cell? ⟨b, 7, none⟩ = some (.int .i64 x.low) ∧ w.cell? ⟨b, 8, none⟩ = some (.int .i64 x.high) ∧ w.cell? ⟨b, 9, none⟩ = some (.int .i64 x.void) :=
 ⟨h.at' 0 _ rfl, h.at' 1 _ rfl, h.at' 2 _ rfl, h.at' 3 _ rfl, h.at' 4 _ rfl, h.at' 5 _ rfl, h.at' 6 _ rfl, h.at' 7 _ rfl, h.at' 8 _ rfl, h.at' 9 _ rfl⟩
theorem RpBox.of {w : World} {b : Nat} {x : Rp} (h0 : w.cell? ⟨b, 0, none⟩ = some (.int .i64 x.id)) (h1 : w.cell? ⟨b, 1, none⟩ = some (.int .i64 x.known)) (h2 : w.cell? ⟨b, 2, none⟩ = some (.int .u8 x.kind)) (h3 : w.cell? ⟨b, 3, none⟩ = some (.int .i64 x.owner)) (h4 : w.cell? ⟨b, 4, none⟩ = some (.string x.sort)) (h5 : w.cell? ⟨b, 5, none⟩ = some (.int .i64 x.plc)) (h6 : w.cell? ⟨b, 6, none⟩ = some (.int .i64 x.tick)) (h7 : w.cell? ⟨b, 7, none⟩ = some (.int .i64 x.low)) (h8 : w.cell? ⟨b, 8, none⟩ = some (.int .i64 x.high)) (h9 : w.cell? ⟨b, 9, none⟩ = some (.int .i64 x.void)) (hf : ∀ j, j < 10 → w.frozen? ⟨b, j, none⟩ = false) : RpBox w b x :=
 ⟨rpAt_of h0 h1 h2 h3 h4 h5 h6 h7 h8 h9, hf⟩
theorem strs_9 {W : World} {b : Nat} {L : List ByteArray} (h : Strs W (some ⟨b, 0, none⟩) L) (hn : L.length = 9) : W.cell? ⟨b, 0, none⟩ = some (.string (wd L 0)) ∧ W.cell? ⟨b, 1, none⟩ = some (.string (wd L 1)) ∧ W.cell? ⟨b, 2, none⟩ = some (.string (wd L 2)) ∧ W.cell? ⟨b, 3, none⟩ = some (.string (wd L 3)) ∧ W.cell? ⟨b, 4, none⟩ = some (.string (wd L 4)) ∧ W.cell? ⟨b, 5, none⟩ = some (.string (wd L 5)) ∧ W.cell? ⟨b, 6, none⟩ = some (.string (wd L 6)) ∧ W.cell? ⟨b, 7, none⟩ = some (.string (wd L 7)) ∧ W.cell? ⟨b, 8, none⟩ = some (.string (wd L 8)) :=
 ⟨strs_cell h (by omega), strs_cell h (by omega), strs_cell h (by omega), strs_cell h (by omega), strs_cell h (by omega), strs_cell h (by omega), strs_cell h (by omega), strs_cell h (by omega), strs_cell h (by omega)⟩
theorem strs_n {W : World} {b : Nat} {L : List ByteArray} (h : Strs W (some ⟨b, 0, none⟩) L) (hn : 4 ≤ L.length) : W.cell? ⟨b, 0, none⟩ = some (.string (wd L 0)) ∧ W.cell? ⟨b, 1, none⟩ = some (.string (wd L 1)) ∧ W.cell? ⟨b, 2, none⟩ = some (.string (wd L 2)) ∧ W.cell? ⟨b, 3, none⟩ = some (.string (wd L 3)) :=
 ⟨strs_cell h (by omega), strs_cell h (by omega), strs_cell h (by omega), strs_cell h (by omega)⟩
theorem wrap_kind {k : Int} (h : 0 ≤ k ∧ k ≤ 8) : IntKind.u8.wrap k = k := by
 have h2 : k = 0 ∨ k = 1 ∨ k = 2 ∨ k = 3 ∨ k = 4 ∨ k = 5 ∨ k = 6 ∨ k = 7 ∨ k = 8 := by omega
 rcases h2 with rfl | rfl | rfl | rfl | rfl | rfl | rfl | rfl | rfl <;> rfl
theorem kept_then {O : Nat → Prop} {w W W' : World} (hk : Kept O w W) (hb : Below W.heap.size W W') : Kept O w W' := hk.trans (Kept.of_below (O := O) hb) fun _ _ h => h
theorem c_ReadIn_v (m : Fm) (s : ByteArray) (ps px pf : Nat) (w0 w : World) (h : ReadIn m s ps px pf w0 w) (L : List ByteArray) (hL : wordsB s = L) (n : Nat) (hn : L.length = n) (h49 : n = 4 ∨ n = 9) (hk : kindW L = 8) :
    Calls Tryz.prog 132 #[.pointer (some ⟨ps, 0, none⟩), .pointer (some ⟨px, 0, none⟩), .pointer (some ⟨pf, 0, none⟩)] w (ReadOut m s px w0 w) := by
  have hSp := c_Split 32 s w (h.lib.later h.b) h.size
  rw [show piecesC 32 s = L from hL, hn] at hSp
  have HSp := Lib.hid hSp
  have LB := Lib.hid h.lib
  have LM := Lib.hid h.fell
  have LF := Lib.hid h.right
  have SZ := Lib.hid (wd_size hL h.size)
  have HL := Lib.hid hL
  have HN := Lib.hid hn
  have hb0 := h.b
  have hx := h.x
  have cs := h.cs
  have HQ : CellsAt w pf 0 (feC m) := cells_4 h.q0 h.q1 h.q2 h.q3
  have HX : RpBox w px (⟨0, 0, 0, 0, ⟨#[]⟩, 0, 0, 0, 0, 0⟩ : Rp) := ⟨h.xs, h.fx⟩
  have ne1 := h.n1
  have ne2 := h.n2
  have ne3 : w.heap.size ≠ px := fun e => by have := cell_lt (h.xs 0 _ rfl); omega
  clear h hSp hL hn
  rcases h49 with h4 | h4
  all_goals
   have hle : 4 ≤ n := by omega
   first | (have e4 : ((n : Int) == 4) = true := beq_iff_eq.2 (by omega); have e9 : ((n : Int) == 9) = false := beq_eq_false_iff_ne.2 (by omega)) | (have e4 : ((n : Int) == 4) = false := beq_eq_false_iff_ne.2 (by omega); have e9 : ((n : Int) == 9) = true := beq_iff_eq.2 (by omega))
   have H4 := Lib.hid h4
   clear h4
   go_enter Tryz.func132, Tryz.ntmps132
   go_wp2_with fail
   refine HSp.out.mono ?_
   rintro e W1 ⟨rfl, HS, hB⟩
   have hk0 := kept_then (Kept.refl (fun k => k = px) w) hB
   replace HQ := HQ.later hB
   replace HX := HX.later hB
   replace cs := later_of hB cs
   replace hb0 := bthen hb0 hB
   clear hB HSp
   go_wp2_with fail
   refine (c_unless_t _ _).mono ?_
   rintro e w2 ⟨rfl, rfl⟩
   go_upto_region 2 with (fail)
   obtain ⟨q0, q1, q2, q3⟩ := fe_cells HQ
   obtain ⟨x0, x1, x2, x3, x4, x5, x6, x7, x8, x9⟩ := HX.cells
   have fx := HX.fz
   obtain ⟨l0, l1, l2, l3⟩ := strs_n HS (by rw [HN.out]; exact hle)
   refine wp_region_assert 8 W1 (fun i => ([Stays.val (.slice (some ⟨w.heap.size, 0, none⟩) n n), Stays.val (.pointer (some ⟨w.heap.size, 0, none⟩)), Stays.val (.string (wd L 0)), Stays.num (numO (wd L 0)), Stays.val (.slice (some ⟨w.heap.size, 0, none⟩) n n), Stays.val (.pointer (some ⟨w.heap.size, 1, none⟩)), Stays.val (.string (wd L 1)), Stays.num (numO (wd L 1))] : List Stays)[i]?.getD Stays.any) (by kernel_rfl) (by kernel_rfl) (by kernel_rfl) (Below.refl _ _) ?hstep ?htail
   case hstep =>
     intro fr hfr hfd
     simp only [List.take_succ_cons, List.take_zero] at hfr ⊢
     refine ⟨?_, ?_⟩
     · intro vs W hW hd
       have e3 : (fr vs).tmps[3]?.getD undef = .slice (some ⟨w.heap.size, 0, none⟩) n n := (hfr.out vs 3).trans rfl
       exact sv (.slice (some ⟨w.heap.size, 0, none⟩) n n)
     refine ⟨?_, ?_⟩
     · intro vs W hW hd
       have e15 : (fr vs).tmps[15]?.getD undef = .slice (some ⟨w.heap.size, 0, none⟩) n n := (hfr.out vs 15).trans (by show vs 0 = _; exact hd.1 rfl)
       exact step_val (.pointer (some ⟨w.heap.size, 0, none⟩)) (W' := W) (by simp only [execOp]; go_simp <;> intros <;> exfalso <;> omega) ⟨_, rfl, rfl, Below.refl _ _⟩
     refine ⟨?_, ?_⟩
     · intro vs W hW hd
       have e16 : (fr vs).tmps[16]?.getD undef = .pointer (some ⟨w.heap.size, 0, none⟩) := (hfr.out vs 16).trans (by show vs 1 = _; exact hd.1 rfl)
       have kl0 := later_of hW l0
       exact sv (.string (wd L 0))
     refine ⟨?_, ?_⟩
     · intro vs W hW hd
       have e17 : (fr vs).tmps[17]?.getD undef = .string (wd L 0) := (hfr.out vs 17).trans (by show vs 2 = _; exact hd.1 rfl)
       exact step_num (f := 133) (args := #[.string (wd L 0)]) (W' := W) (by simp only [execOp]; go_simp) (c_numW _ W (LB.out.later (bthen hb0 hW)) (SZ.out 0)) (fun n w' hn hb => ⟨_, rfl, ⟨n, hn, rfl⟩, hb⟩) (fun hn w' hb => ⟨hfd.out vs, ReadOut.no HL.out (meant_0 hn) (kept_then (kept_then hk0 hW) hb) (bthen (bthen hb0 hW) hb)⟩)
     refine ⟨?_, ?_⟩
     · intro vs W hW hd
       have e3 : (fr vs).tmps[3]?.getD undef = .slice (some ⟨w.heap.size, 0, none⟩) n n := (hfr.out vs 3).trans rfl
       exact sv (.slice (some ⟨w.heap.size, 0, none⟩) n n)
     refine ⟨?_, ?_⟩
     · intro vs W hW hd
       have e19 : (fr vs).tmps[19]?.getD undef = .slice (some ⟨w.heap.size, 0, none⟩) n n := (hfr.out vs 19).trans (by show vs 4 = _; exact hd.1 rfl)
       exact step_val (.pointer (some ⟨w.heap.size, 1, none⟩)) (W' := W) (by simp only [execOp]; go_simp <;> intros <;> exfalso <;> omega) ⟨_, rfl, rfl, Below.refl _ _⟩
     refine ⟨?_, ?_⟩
     · intro vs W hW hd
       have e20 : (fr vs).tmps[20]?.getD undef = .pointer (some ⟨w.heap.size, 1, none⟩) := (hfr.out vs 20).trans (by show vs 5 = _; exact hd.1 rfl)
       have kl1 := later_of hW l1
       exact sv (.string (wd L 1))
     refine ⟨?_, ?_⟩
     · intro vs W hW hd
       have e21 : (fr vs).tmps[21]?.getD undef = .string (wd L 1) := (hfr.out vs 21).trans (by show vs 6 = _; exact hd.1 rfl)
       exact step_num (f := 133) (args := #[.string (wd L 1)]) (W' := W) (by simp only [execOp]; go_simp) (c_numW _ W (LB.out.later (bthen hb0 hW)) (SZ.out 1)) (fun n w' hn hb => ⟨_, rfl, ⟨n, hn, rfl⟩, hb⟩) (fun hn w' hb => ⟨hfd.out vs, ReadOut.no HL.out (meant_1 hn) (kept_then (kept_then hk0 hW) hb) (bthen (bthen hb0 hW) hb)⟩)
     trivial
   case htail =>
     intro vs V2 hW hv
     obtain ⟨n3, h3, v3⟩ := hv.2.2.2.1
     obtain ⟨n7, h7, v7⟩ := hv.2.2.2.2.2.2.2.1
     clear hv
     simp only [List.take_succ_cons, List.take_zero, List.drop_succ_cons, List.drop_zero, frameV, Act.put, List.setIfInBounds_toArray, List.set_cons_zero, List.set_cons_succ, v3, v7]
     clear q0 q1 q2 q3 x0 x1 x2 x3 x4 x5 x6 x7 x8 x9 l0 l1 l2 l3 fx
     replace HQ := HQ.later hW
     replace HX := HX.later hW
     replace HS := HS.later hW
     replace cs := later_of hW cs
     replace hk0 := kept_then hk0 hW
     replace hb0 := bthen hb0 hW
     clear hW
     obtain ⟨q0, q1, q2, q3⟩ := fe_cells HQ
     obtain ⟨x0, x1, x2, x3, x4, x5, x6, x7, x8, x9⟩ := HX.cells
     have fx := HX.fz
     obtain ⟨l0, l1, l2, l3⟩ := strs_n HS (by rw [HN.out]; exact hle)
     go_upto_region 3 with (fail)
     go_name_world W2 hW2
     have hkv : Kept (fun k => k = px) V2 W2 := by subst hW2; exact ((Kept.refl (fun k => k = px) _).setCell (p := ⟨px, _, none⟩) (.inl rfl) _).setCell (p := ⟨px, _, none⟩) (.inl rfl) _
     have hbn : Below w0.heap.size w0 W2 := by subst hW2; have hbz := hb0.size; go_grown
     have HXn : RpBox W2 px (⟨n3, n7, 0, 0, ⟨#[]⟩, 0, 0, 0, 0, 0⟩ : Rp) := .of (by subst hW2; go_simp) (by subst hW2; go_simp) (by subst hW2; go_simp) (by subst hW2; go_simp) (by subst hW2; go_simp) (by subst hW2; go_simp) (by subst hW2; go_simp) (by subst hW2; go_simp) (by subst hW2; go_simp) (by subst hW2; go_simp) (fun j hj => (by subst hW2; simp only [World.frozen?_setCell]; exact fx j hj))
     clear q0 q1 q2 q3 x0 x1 x2 x3 x4 x5 x6 x7 x8 x9 l0 l1 l2 l3 fx
     clear hW2 hb0 HX
     have hb0 := hbn
     have HX := HXn
     replace hk0 := hk0.trans hkv fun _ _ h => h
     replace HQ := HQ.kept hkv ne2
     replace HS := HS.kept hkv (fun b o e => by cases e; exact ne3)
     replace cs := hkv.cell ne1 cs
     clear hbn HXn hkv
     obtain ⟨q0, q1, q2, q3⟩ := fe_cells HQ
     obtain ⟨x0, x1, x2, x3, x4, x5, x6, x7, x8, x9⟩ := HX.cells
     have fx := HX.fz
     obtain ⟨l0, l1, l2, l3⟩ := strs_n HS (by rw [HN.out]; exact hle)
     refine wp_region_assert 7 W2 (fun i => ([Stays.strs kindsL, Stays.val (.slice (some ⟨w.heap.size, 0, none⟩) n n), Stays.val (.pointer (some ⟨w.heap.size, 2, none⟩)), Stays.val (.string (wd L 2)), Stays.val (.int .i64 (idxS kindsL (wd L 2))), Stays.val (.int .i64 (max 0 (idxS kindsL (wd L 2)))), Stays.val (.int .u8 (max 0 (idxS kindsL (wd L 2))))] : List Stays)[i]?.getD Stays.any) (by kernel_rfl) (by kernel_rfl) (by kernel_rfl) (Below.refl _ _) ?hstep ?htail
     case hstep =>
       intro fr hfr hfd
       simp only [List.take_succ_cons, List.take_zero] at hfr ⊢
       refine ⟨?_, ?_⟩
       · intro vs W hW hd
         exact step_call (R := fun v w' => (Stays.strs kindsL).p v w' ∧ Below W.heap.size W w') (f := 135) (args := #[]) (W' := W) (by simp only [execOp]; go_simp) ((c_kinds W).mono fun e w' ⟨h1, h2, h3⟩ => ⟨_, h1, ⟨_, _, rfl, trivial, h2⟩, h3⟩) fun v w' h => ⟨v, rfl, h⟩
       refine ⟨?_, ?_⟩
       · intro vs W hW hd
         have e3 : (fr vs).tmps[3]?.getD undef = .slice (some ⟨w.heap.size, 0, none⟩) n n := (hfr.out vs 3).trans rfl
         exact sv (.slice (some ⟨w.heap.size, 0, none⟩) n n)
       refine ⟨?_, ?_⟩
       · intro vs W hW hd
         have e26 : (fr vs).tmps[26]?.getD undef = .slice (some ⟨w.heap.size, 0, none⟩) n n := (hfr.out vs 26).trans (by show vs 1 = _; exact hd.1 rfl)
         exact step_val (.pointer (some ⟨w.heap.size, 2, none⟩)) (W' := W) (by simp only [execOp]; go_simp <;> intros <;> exfalso <;> omega) ⟨_, rfl, rfl, Below.refl _ _⟩
       refine ⟨?_, ?_⟩
       · intro vs W hW hd
         have e27 : (fr vs).tmps[27]?.getD undef = .pointer (some ⟨w.heap.size, 2, none⟩) := (hfr.out vs 27).trans (by show vs 2 = _; exact hd.1 rfl)
         have kl2 := later_of hW l2
         exact sv (.string (wd L 2))
       refine ⟨?_, ?_⟩
       · intro vs W hW hd
         obtain ⟨b25, c25, hv25, hc25, hs25⟩ := hd.1 rfl
         have e25 : (fr vs).tmps[25]?.getD undef = .slice b25 (kindsL).length c25 := (hfr.out vs 25).trans (by show vs 0 = _; exact hv25)
         have e28 : (fr vs).tmps[28]?.getD undef = .string (wd L 2) := (hfr.out vs 28).trans (by show vs 3 = _; exact hd.2.1 rfl)
         exact step_call (R := fun v w' => (Stays.val (.int .i64 (idxS kindsL (wd L 2)))).p v w' ∧ Below W.heap.size W w') (f := 134) (args := #[.slice b25 kindsL.length c25, .string (wd L 2)]) (W' := W) (by simp only [execOp]; go_simp) ((c_Index (wd L 2) kindsL b25 c25 W hs25).mono fun e w' ⟨h1, h2⟩ => ⟨_, h1, rfl, h2⟩) fun v w' h => ⟨v, rfl, h⟩
       refine ⟨?_, ?_⟩
       · intro vs W hW hd
         have e29 : (fr vs).tmps[29]?.getD undef = .int .i64 (idxS kindsL (wd L 2)) := (hfr.out vs 29).trans (by show vs 4 = _; exact hd.1 rfl)
         exact sv (.int .i64 (max 0 (idxS kindsL (wd L 2))))
       refine ⟨?_, ?_⟩
       · intro vs W hW hd
         have e30 : (fr vs).tmps[30]?.getD undef = .int .i64 (max 0 (idxS kindsL (wd L 2))) := (hfr.out vs 30).trans (by show vs 5 = _; exact hd.1 rfl)
         have hkb : 0 ≤ max 0 (idxS kindsL (wd L 2)) ∧ max 0 (idxS kindsL (wd L 2)) ≤ 8 := kindW_bd L
         exact step_val (.int .u8 (max 0 (idxS kindsL (wd L 2)))) (W' := W) (by simp only [execOp]; go_simp; exact wrap_kind hkb) ⟨_, rfl, rfl, Below.refl _ _⟩
       trivial
     case htail =>
       intro vs V3 hW hv
       have v6 : vs 6 = .int .u8 (max 0 (idxS kindsL (wd L 2))) := hv.2.2.2.2.2.2.1
       clear hv
       simp only [List.take_succ_cons, List.take_zero, List.drop_succ_cons, List.drop_zero, frameV, Act.put, List.setIfInBounds_toArray, List.set_cons_zero, List.set_cons_succ, v6]
       clear q0 q1 q2 q3 x0 x1 x2 x3 x4 x5 x6 x7 x8 x9 l0 l1 l2 l3 fx
       replace HQ := HQ.later hW
       replace HX := HX.later hW
       replace HS := HS.later hW
       replace cs := later_of hW cs
       replace hk0 := kept_then hk0 hW
       replace hb0 := bthen hb0 hW
       clear hW
       obtain ⟨q0, q1, q2, q3⟩ := fe_cells HQ
       obtain ⟨x0, x1, x2, x3, x4, x5, x6, x7, x8, x9⟩ := HX.cells
       have fx := HX.fz
       obtain ⟨l0, l1, l2, l3⟩ := strs_n HS (by rw [HN.out]; exact hle)
       go_upto_region 4 with (fail)
       go_name_world W3 hW3
       have hkv : Kept (fun k => k = px) V3 W3 := by subst hW3; exact (Kept.refl (fun k => k = px) _).setCell (p := ⟨px, _, none⟩) (.inl rfl) _
       have hbn : Below w0.heap.size w0 W3 := by subst hW3; have hbz := hb0.size; go_grown
       have HXn : RpBox W3 px (⟨n3, n7, max 0 (idxS kindsL (wd L 2)), 0, ⟨#[]⟩, 0, 0, 0, 0, 0⟩ : Rp) := .of (by subst hW3; go_simp) (by subst hW3; go_simp) (by subst hW3; go_simp) (by subst hW3; go_simp) (by subst hW3; go_simp) (by subst hW3; go_simp) (by subst hW3; go_simp) (by subst hW3; go_simp) (by subst hW3; go_simp) (by subst hW3; go_simp) (fun j hj => (by subst hW3; simp only [World.frozen?_setCell]; exact fx j hj))
       clear q0 q1 q2 q3 x0 x1 x2 x3 x4 x5 x6 x7 x8 x9 l0 l1 l2 l3 fx
       clear hW3 hb0 HX
       have hb0 := hbn
       have HX := HXn
       replace hk0 := hk0.trans hkv fun _ _ h => h
       replace HQ := HQ.kept hkv ne2
       replace HS := HS.kept hkv (fun b o e => by cases e; exact ne3)
       replace cs := hkv.cell ne1 cs
       clear hbn HXn hkv
       rw [show max 0 (idxS kindsL (wd L 2)) = 8 from hk] at HX
       obtain ⟨q0, q1, q2, q3⟩ := fe_cells HQ
       obtain ⟨x0, x1, x2, x3, x4, x5, x6, x7, x8, x9⟩ := HX.cells
       have fx := HX.fz
       obtain ⟨l0, l1, l2, l3⟩ := strs_n HS (by rw [HN.out]; exact hle)
       go_wp2_with fail
       refine (c_numW _ _ (LB.out.later hb0) (SZ.out 3)).mono ?_
       rintro e V5 ⟨rfl, hB⟩
       clear q0 q1 q2 q3 x0 x1 x2 x3 x4 x5 x6 x7 x8 x9 l0 l1 l2 l3 fx
       replace HQ := HQ.later hB
       replace HX := HX.later hB
       replace HS := HS.later hB
       replace cs := later_of hB cs
       replace hk0 := kept_then hk0 hB
       replace hb0 := bthen hb0 hB
       clear hB
       cases hv : numO (wd L 3) with
       | none =>
         have HV := Lib.hid hv
         clear hv
         dsimp only [numE]
         go_wp2
         exact ⟨rfl, ReadOut.no HL.out (meant_8n hk HV.out) hk0 hb0⟩
       | some nv =>
         have HV := Lib.hid hv
         clear hv
         dsimp only [numE]
         obtain ⟨q0, q1, q2, q3⟩ := fe_cells HQ
         obtain ⟨x0, x1, x2, x3, x4, x5, x6, x7, x8, x9⟩ := HX.cells
         have fx := HX.fz
         obtain ⟨l0, l1, l2, l3⟩ := strs_n HS (by rw [HN.out]; exact hle)
         go_upto_region 9 with (fail)
         go_name_world W5 hW5
         have hkv : Kept (fun k => k = px) V5 W5 := by subst hW5; exact (Kept.refl (fun k => k = px) _).setCell (p := ⟨px, _, none⟩) (.inl rfl) _
         have hbn : Below w0.heap.size w0 W5 := by subst hW5; have hbz := hb0.size; go_grown
         have HXn : RpBox W5 px (⟨n3, n7, 8, 0, ⟨#[]⟩, 0, 0, 0, 0, nv⟩ : Rp) := .of (by subst hW5; go_simp) (by subst hW5; go_simp) (by subst hW5; go_simp) (by subst hW5; go_simp) (by subst hW5; go_simp) (by subst hW5; go_simp) (by subst hW5; go_simp) (by subst hW5; go_simp) (by subst hW5; go_simp) (by subst hW5; go_simp) (fun j hj => (by subst hW5; simp only [World.frozen?_setCell]; exact fx j hj))
         clear q0 q1 q2 q3 x0 x1 x2 x3 x4 x5 x6 x7 x8 x9 l0 l1 l2 l3 fx
         clear hW5 hb0 HX
         have hb0 := hbn
         have HX := HXn
         replace hk0 := hk0.trans hkv fun _ _ h => h
         replace HQ := HQ.kept hkv ne2
         replace HS := HS.kept hkv (fun b o e => by cases e; exact ne3)
         replace cs := hkv.cell ne1 cs
         clear hbn HXn hkv
         obtain ⟨q0, q1, q2, q3⟩ := fe_cells HQ
         obtain ⟨x0, x1, x2, x3, x4, x5, x6, x7, x8, x9⟩ := HX.cells
         have fx := HX.fz
         obtain ⟨l0, l1, l2, l3⟩ := strs_n HS (by rw [HN.out]; exact hle)
         have HM : Hid (meantO m.f L = some (⟨n3, n7, 8, 0, ⟨#[]⟩, 0, 0, 0, 0, nv⟩ : Rp)) := Lib.hid (meant_8 (by first | exact .inl (HN.out.trans H4.out) | exact .inr (HN.out.trans H4.out)) h3 h7 hk HV.out)
         go_wp2_with fail
         refine (c_judge m (⟨n3, n7, 8, 0, ⟨#[]⟩, 0, 0, 0, 0, nv⟩ : Rp) _ (right_of LF.out).small ⟨by show (0:Int) ≤ 8; decide, by show (8:Int) ≤ 255; decide⟩).mono ?_
         rintro e V9 ⟨rfl, hB⟩
         clear q0 q1 q2 q3 x0 x1 x2 x3 x4 x5 x6 x7 x8 x9 l0 l1 l2 l3 fx
         replace HQ := HQ.later hB
         replace HX := HX.later hB
         replace HS := HS.later hB
         replace cs := later_of hB cs
         replace hk0 := kept_then hk0 hB
         replace hb0 := bthen hb0 hB
         clear hB
         by_cases hj : judgeE m.f (⟨n3, n7, 8, 0, ⟨#[]⟩, 0, 0, 0, 0, nv⟩ : Rp) = 0
         case neg =>
           have HJ := Lib.hid hj
           rw [endV_no hj]
           clear hj
           dsimp only
           go_wp2
           exact ⟨rfl, ReadOut.judge HL.out HM.out HJ.out hk0 hb0⟩
         rw [show endV (judgeE m.f (⟨n3, n7, 8, 0, ⟨#[]⟩, 0, 0, 0, 0, nv⟩ : Rp)) = .returned (.tuple #[]) from by rw [hj]; rfl]
         dsimp only
         have HJ := Lib.hid hj
         clear hj
         go_upto_region 10 with (fail)
         by_cases hs : lineV m.f (⟨n3, n7, 8, 0, ⟨#[]⟩, 0, 0, 0, 0, nv⟩ : Rp) = s
         case pos =>
           have hq : ((lineV m.f (⟨n3, n7, 8, 0, ⟨#[]⟩, 0, 0, 0, 0, nv⟩ : Rp)).toList == s.toList) = true := by rw [hs]; simp
           have HS2 := Lib.hid hs
           clear hs
           obtain ⟨q0, q1, q2, q3⟩ := fe_cells HQ
           obtain ⟨x0, x1, x2, x3, x4, x5, x6, x7, x8, x9⟩ := HX.cells
           have fx := HX.fz
           obtain ⟨l0, l1, l2, l3⟩ := strs_n HS (by rw [HN.out]; exact hle)
           refine wp_region_assert 5 V9 (fun i => ([Stays.val (m.v), Stays.val (.agg #[.int .i64 n3, .int .i64 n7, .int .u8 8, .int .i64 0, .string ⟨#[]⟩, .int .i64 0, .int .i64 0, .int .i64 0, .int .i64 0, .int .i64 nv]), Stays.val (.string (lineV m.f (⟨n3, n7, 8, 0, ⟨#[]⟩, 0, 0, 0, 0, nv⟩ : Rp))), Stays.val (.string s), Stays.val (.bool true)] : List Stays)[i]?.getD Stays.any) (by kernel_rfl) (by kernel_rfl) (by kernel_rfl) (Below.refl _ _) ?hstep ?htail
           case hstep =>
             intro fr hfr hfd
             simp only [List.take_succ_cons, List.take_zero] at hfr ⊢
             refine ⟨?_, ?_⟩
             · intro vs W hW hd
               have e2 : (fr vs).tmps[2]?.getD undef = .pointer (some ⟨pf, 0, none⟩) := (hfr.out vs 2).trans rfl
               have kq0 := later_of hW q0
               have kq1 := later_of hW q1
               have kq2 := later_of hW q2
               have kq3 := later_of hW q3
               exact sv (m.v)
             refine ⟨?_, ?_⟩
             · intro vs W hW hd
               have e1 : (fr vs).tmps[1]?.getD undef = .pointer (some ⟨px, 0, none⟩) := (hfr.out vs 1).trans rfl
               have kx0 := later_of hW x0
               have kx1 := later_of hW x1
               have kx2 := later_of hW x2
               have kx3 := later_of hW x3
               have kx4 := later_of hW x4
               have kx5 := later_of hW x5
               have kx6 := later_of hW x6
               have kx7 := later_of hW x7
               have kx8 := later_of hW x8
               have kx9 := later_of hW x9
               exact sv (.agg #[.int .i64 n3, .int .i64 n7, .int .u8 8, .int .i64 0, .string ⟨#[]⟩, .int .i64 0, .int .i64 0, .int .i64 0, .int .i64 0, .int .i64 nv])
             refine ⟨?_, ?_⟩
             · intro vs W hW hd
               have e86 : (fr vs).tmps[86]?.getD undef = m.v := (hfr.out vs 86).trans (by show vs 0 = _; exact hd.1 rfl)
               have e87 : (fr vs).tmps[87]?.getD undef = .agg #[.int .i64 n3, .int .i64 n7, .int .u8 8, .int .i64 0, .string ⟨#[]⟩, .int .i64 0, .int .i64 0, .int .i64 0, .int .i64 0, .int .i64 nv] := (hfr.out vs 87).trans (by show vs 1 = _; exact hd.2.1 rfl)
               exact step_call (R := fun v w' => (Stays.val (.string (lineV m.f (⟨n3, n7, 8, 0, ⟨#[]⟩, 0, 0, 0, 0, nv⟩ : Rp)))).p v w' ∧ Below W.heap.size W w') (f := 131) (args := #[m.v, .agg #[.int .i64 n3, .int .i64 n7, .int .u8 8, .int .i64 0, .string ⟨#[]⟩, .int .i64 0, .int .i64 0, .int .i64 0, .int .i64 0, .int .i64 nv]]) (W' := W) (by simp only [execOp]; go_simp) ((c_line m (⟨n3, n7, 8, 0, ⟨#[]⟩, 0, 0, 0, 0, nv⟩ : Rp) W (LM.out.later (bthen hb0 hW)) (LB.out.later (bthen hb0 hW)) LF.out (judge_ok HJ.out)).mono fun e w' ⟨h1, h2⟩ => ⟨_, h1, rfl, h2⟩) fun v w' h => ⟨v, rfl, h⟩
             refine ⟨?_, ?_⟩
             · intro vs W hW hd
               have e0 : (fr vs).tmps[0]?.getD undef = .pointer (some ⟨ps, 0, none⟩) := (hfr.out vs 0).trans rfl
               have kcs := later_of hW cs
               exact sv (.string s)
             refine ⟨?_, ?_⟩
             · intro vs W hW hd
               have e88 : (fr vs).tmps[88]?.getD undef = .string (lineV m.f (⟨n3, n7, 8, 0, ⟨#[]⟩, 0, 0, 0, 0, nv⟩ : Rp)) := (hfr.out vs 88).trans (by show vs 2 = _; exact hd.1 rfl)
               have e89 : (fr vs).tmps[89]?.getD undef = .string s := (hfr.out vs 89).trans (by show vs 3 = _; exact hd.2.1 rfl)
               exact sv (.bool true)
             trivial
           case htail =>
             intro vs V10 hW hv
             have v4 : vs 4 = .bool true := hv.2.2.2.2.1
             clear hv
             simp only [List.take_succ_cons, List.take_zero, List.drop_succ_cons, List.drop_zero, frameV, Act.put, List.setIfInBounds_toArray, List.set_cons_zero, List.set_cons_succ, v4]
             clear q0 q1 q2 q3 x0 x1 x2 x3 x4 x5 x6 x7 x8 x9 l0 l1 l2 l3 fx
             replace HQ := HQ.later hW
             replace HX := HX.later hW
             replace HS := HS.later hW
             replace cs := later_of hW cs
             replace hk0 := kept_then hk0 hW
             replace hb0 := bthen hb0 hW
             clear hW
             go_wp2_with fail
             refine (c_unless_t _ _).mono ?_
             rintro e w2 ⟨rfl, rfl⟩
             go_wp2
             go_end0
             exact ReadOut.ok HL.out HM.out HJ.out HS2.out hk0 hb0 HX.at'
         case neg =>
           have hq : ((lineV m.f (⟨n3, n7, 8, 0, ⟨#[]⟩, 0, 0, 0, 0, nv⟩ : Rp)).toList == s.toList) = false := beq_eq_false_iff_ne.2 (fun h => hs (tl_inj h))
           have HS2 := Lib.hid hs
           clear hs
           obtain ⟨q0, q1, q2, q3⟩ := fe_cells HQ
           obtain ⟨x0, x1, x2, x3, x4, x5, x6, x7, x8, x9⟩ := HX.cells
           have fx := HX.fz
           obtain ⟨l0, l1, l2, l3⟩ := strs_n HS (by rw [HN.out]; exact hle)
           refine wp_region_assert 5 V9 (fun i => ([Stays.val (m.v), Stays.val (.agg #[.int .i64 n3, .int .i64 n7, .int .u8 8, .int .i64 0, .string ⟨#[]⟩, .int .i64 0, .int .i64 0, .int .i64 0, .int .i64 0, .int .i64 nv]), Stays.val (.string (lineV m.f (⟨n3, n7, 8, 0, ⟨#[]⟩, 0, 0, 0, 0, nv⟩ : Rp))), Stays.val (.string s), Stays.val (.bool false)] : List Stays)[i]?.getD Stays.any) (by kernel_rfl) (by kernel_rfl) (by kernel_rfl) (Below.refl _ _) ?hstep ?htail
           case hstep =>
             intro fr hfr hfd
             simp only [List.take_succ_cons, List.take_zero] at hfr ⊢
             refine ⟨?_, ?_⟩
             · intro vs W hW hd
               have e2 : (fr vs).tmps[2]?.getD undef = .pointer (some ⟨pf, 0, none⟩) := (hfr.out vs 2).trans rfl
               have kq0 := later_of hW q0
               have kq1 := later_of hW q1
               have kq2 := later_of hW q2
               have kq3 := later_of hW q3
               exact sv (m.v)
             refine ⟨?_, ?_⟩
             · intro vs W hW hd
               have e1 : (fr vs).tmps[1]?.getD undef = .pointer (some ⟨px, 0, none⟩) := (hfr.out vs 1).trans rfl
               have kx0 := later_of hW x0
               have kx1 := later_of hW x1
               have kx2 := later_of hW x2
               have kx3 := later_of hW x3
               have kx4 := later_of hW x4
               have kx5 := later_of hW x5
               have kx6 := later_of hW x6
               have kx7 := later_of hW x7
               have kx8 := later_of hW x8
               have kx9 := later_of hW x9
               exact sv (.agg #[.int .i64 n3, .int .i64 n7, .int .u8 8, .int .i64 0, .string ⟨#[]⟩, .int .i64 0, .int .i64 0, .int .i64 0, .int .i64 0, .int .i64 nv])
             refine ⟨?_, ?_⟩
             · intro vs W hW hd
               have e86 : (fr vs).tmps[86]?.getD undef = m.v := (hfr.out vs 86).trans (by show vs 0 = _; exact hd.1 rfl)
               have e87 : (fr vs).tmps[87]?.getD undef = .agg #[.int .i64 n3, .int .i64 n7, .int .u8 8, .int .i64 0, .string ⟨#[]⟩, .int .i64 0, .int .i64 0, .int .i64 0, .int .i64 0, .int .i64 nv] := (hfr.out vs 87).trans (by show vs 1 = _; exact hd.2.1 rfl)
               exact step_call (R := fun v w' => (Stays.val (.string (lineV m.f (⟨n3, n7, 8, 0, ⟨#[]⟩, 0, 0, 0, 0, nv⟩ : Rp)))).p v w' ∧ Below W.heap.size W w') (f := 131) (args := #[m.v, .agg #[.int .i64 n3, .int .i64 n7, .int .u8 8, .int .i64 0, .string ⟨#[]⟩, .int .i64 0, .int .i64 0, .int .i64 0, .int .i64 0, .int .i64 nv]]) (W' := W) (by simp only [execOp]; go_simp) ((c_line m (⟨n3, n7, 8, 0, ⟨#[]⟩, 0, 0, 0, 0, nv⟩ : Rp) W (LM.out.later (bthen hb0 hW)) (LB.out.later (bthen hb0 hW)) LF.out (judge_ok HJ.out)).mono fun e w' ⟨h1, h2⟩ => ⟨_, h1, rfl, h2⟩) fun v w' h => ⟨v, rfl, h⟩
             refine ⟨?_, ?_⟩
             · intro vs W hW hd
               have e0 : (fr vs).tmps[0]?.getD undef = .pointer (some ⟨ps, 0, none⟩) := (hfr.out vs 0).trans rfl
               have kcs := later_of hW cs
               exact sv (.string s)
             refine ⟨?_, ?_⟩
             · intro vs W hW hd
               have e88 : (fr vs).tmps[88]?.getD undef = .string (lineV m.f (⟨n3, n7, 8, 0, ⟨#[]⟩, 0, 0, 0, 0, nv⟩ : Rp)) := (hfr.out vs 88).trans (by show vs 2 = _; exact hd.1 rfl)
               have e89 : (fr vs).tmps[89]?.getD undef = .string s := (hfr.out vs 89).trans (by show vs 3 = _; exact hd.2.1 rfl)
               exact sv (.bool false)
             trivial
           case htail =>
             intro vs V10 hW hv
             have v4 : vs 4 = .bool false := hv.2.2.2.2.1
             clear hv
             simp only [List.take_succ_cons, List.take_zero, List.drop_succ_cons, List.drop_zero, frameV, Act.put, List.setIfInBounds_toArray, List.set_cons_zero, List.set_cons_succ, v4]
             clear q0 q1 q2 q3 x0 x1 x2 x3 x4 x5 x6 x7 x8 x9 l0 l1 l2 l3 fx
             replace HQ := HQ.later hW
             replace HX := HX.later hW
             replace HS := HS.later hW
             replace cs := later_of hW cs
             replace hk0 := kept_then hk0 hW
             replace hb0 := bthen hb0 hW
             clear hW
             go_wp2_with fail
             refine (c_unless_f _ _).mono ?_
             rintro e w2 ⟨rfl, rfl⟩
             go_wp2
             exact ⟨rfl, ReadOut.line HL.out HM.out HJ.out HS2.out hk0 hb0⟩
theorem c_ReadIn_n (m : Fm) (s : ByteArray) (ps px pf : Nat) (w0 w : World) (h : ReadIn m s ps px pf w0 w) (L : List ByteArray) (hL : wordsB s = L) (n : Nat) (hn : L.length = n) (h49 : n = 4 ∨ n = 9) (hk : ¬ kindW L = 8) (hp : n = 9 → kindW L = 0) :
    Calls Tryz.prog 132 #[.pointer (some ⟨ps, 0, none⟩), .pointer (some ⟨px, 0, none⟩), .pointer (some ⟨pf, 0, none⟩)] w (ReadOut m s px w0 w) := by
  have hSp := c_Split 32 s w (h.lib.later h.b) h.size
  rw [show piecesC 32 s = L from hL, hn] at hSp
  have HSp := Lib.hid hSp
  have LB := Lib.hid h.lib
  have LM := Lib.hid h.fell
  have LF := Lib.hid h.right
  have SZ := Lib.hid (wd_size hL h.size)
  have HL := Lib.hid hL
  have HN := Lib.hid hn
  have hb0 := h.b
  have hx := h.x
  have cs := h.cs
  have HQ : CellsAt w pf 0 (feC m) := cells_4 h.q0 h.q1 h.q2 h.q3
  have HX : RpBox w px (⟨0, 0, 0, 0, ⟨#[]⟩, 0, 0, 0, 0, 0⟩ : Rp) := ⟨h.xs, h.fx⟩
  have ne1 := h.n1
  have ne2 := h.n2
  have ne3 : w.heap.size ≠ px := fun e => by have := cell_lt (h.xs 0 _ rfl); omega
  clear h hSp hL hn
  rcases h49 with h4 | h4
  all_goals
   have hle : 4 ≤ n := by omega
   first | (have e4 : ((n : Int) == 4) = true := beq_iff_eq.2 (by omega); have e9 : ((n : Int) == 9) = false := beq_eq_false_iff_ne.2 (by omega)) | (have e4 : ((n : Int) == 4) = false := beq_eq_false_iff_ne.2 (by omega); have e9 : ((n : Int) == 9) = true := beq_iff_eq.2 (by omega))
   have H4 := Lib.hid h4
   clear h4
   go_enter Tryz.func132, Tryz.ntmps132
   go_wp2_with fail
   refine HSp.out.mono ?_
   rintro e W1 ⟨rfl, HS, hB⟩
   have hk0 := kept_then (Kept.refl (fun k => k = px) w) hB
   replace HQ := HQ.later hB
   replace HX := HX.later hB
   replace cs := later_of hB cs
   replace hb0 := bthen hb0 hB
   clear hB HSp
   go_wp2_with fail
   refine (c_unless_t _ _).mono ?_
   rintro e w2 ⟨rfl, rfl⟩
   go_upto_region 2 with (fail)
   obtain ⟨q0, q1, q2, q3⟩ := fe_cells HQ
   obtain ⟨x0, x1, x2, x3, x4, x5, x6, x7, x8, x9⟩ := HX.cells
   have fx := HX.fz
   obtain ⟨l0, l1, l2, l3⟩ := strs_n HS (by rw [HN.out]; exact hle)
   refine wp_region_assert 8 W1 (fun i => ([Stays.val (.slice (some ⟨w.heap.size, 0, none⟩) n n), Stays.val (.pointer (some ⟨w.heap.size, 0, none⟩)), Stays.val (.string (wd L 0)), Stays.num (numO (wd L 0)), Stays.val (.slice (some ⟨w.heap.size, 0, none⟩) n n), Stays.val (.pointer (some ⟨w.heap.size, 1, none⟩)), Stays.val (.string (wd L 1)), Stays.num (numO (wd L 1))] : List Stays)[i]?.getD Stays.any) (by kernel_rfl) (by kernel_rfl) (by kernel_rfl) (Below.refl _ _) ?hstep ?htail
   case hstep =>
     intro fr hfr hfd
     simp only [List.take_succ_cons, List.take_zero] at hfr ⊢
     refine ⟨?_, ?_⟩
     · intro vs W hW hd
       have e3 : (fr vs).tmps[3]?.getD undef = .slice (some ⟨w.heap.size, 0, none⟩) n n := (hfr.out vs 3).trans rfl
       exact sv (.slice (some ⟨w.heap.size, 0, none⟩) n n)
     refine ⟨?_, ?_⟩
     · intro vs W hW hd
       have e15 : (fr vs).tmps[15]?.getD undef = .slice (some ⟨w.heap.size, 0, none⟩) n n := (hfr.out vs 15).trans (by show vs 0 = _; exact hd.1 rfl)
       exact step_val (.pointer (some ⟨w.heap.size, 0, none⟩)) (W' := W) (by simp only [execOp]; go_simp <;> intros <;> exfalso <;> omega) ⟨_, rfl, rfl, Below.refl _ _⟩
     refine ⟨?_, ?_⟩
     · intro vs W hW hd
       have e16 : (fr vs).tmps[16]?.getD undef = .pointer (some ⟨w.heap.size, 0, none⟩) := (hfr.out vs 16).trans (by show vs 1 = _; exact hd.1 rfl)
       have kl0 := later_of hW l0
       exact sv (.string (wd L 0))
     refine ⟨?_, ?_⟩
     · intro vs W hW hd
       have e17 : (fr vs).tmps[17]?.getD undef = .string (wd L 0) := (hfr.out vs 17).trans (by show vs 2 = _; exact hd.1 rfl)
       exact step_num (f := 133) (args := #[.string (wd L 0)]) (W' := W) (by simp only [execOp]; go_simp) (c_numW _ W (LB.out.later (bthen hb0 hW)) (SZ.out 0)) (fun n w' hn hb => ⟨_, rfl, ⟨n, hn, rfl⟩, hb⟩) (fun hn w' hb => ⟨hfd.out vs, ReadOut.no HL.out (meant_0 hn) (kept_then (kept_then hk0 hW) hb) (bthen (bthen hb0 hW) hb)⟩)
     refine ⟨?_, ?_⟩
     · intro vs W hW hd
       have e3 : (fr vs).tmps[3]?.getD undef = .slice (some ⟨w.heap.size, 0, none⟩) n n := (hfr.out vs 3).trans rfl
       exact sv (.slice (some ⟨w.heap.size, 0, none⟩) n n)
     refine ⟨?_, ?_⟩
     · intro vs W hW hd
       have e19 : (fr vs).tmps[19]?.getD undef = .slice (some ⟨w.heap.size, 0, none⟩) n n := (hfr.out vs 19).trans (by show vs 4 = _; exact hd.1 rfl)
       exact step_val (.pointer (some ⟨w.heap.size, 1, none⟩)) (W' := W) (by simp only [execOp]; go_simp <;> intros <;> exfalso <;> omega) ⟨_, rfl, rfl, Below.refl _ _⟩
     refine ⟨?_, ?_⟩
     · intro vs W hW hd
       have e20 : (fr vs).tmps[20]?.getD undef = .pointer (some ⟨w.heap.size, 1, none⟩) := (hfr.out vs 20).trans (by show vs 5 = _; exact hd.1 rfl)
       have kl1 := later_of hW l1
       exact sv (.string (wd L 1))
     refine ⟨?_, ?_⟩
     · intro vs W hW hd
       have e21 : (fr vs).tmps[21]?.getD undef = .string (wd L 1) := (hfr.out vs 21).trans (by show vs 6 = _; exact hd.1 rfl)
       exact step_num (f := 133) (args := #[.string (wd L 1)]) (W' := W) (by simp only [execOp]; go_simp) (c_numW _ W (LB.out.later (bthen hb0 hW)) (SZ.out 1)) (fun n w' hn hb => ⟨_, rfl, ⟨n, hn, rfl⟩, hb⟩) (fun hn w' hb => ⟨hfd.out vs, ReadOut.no HL.out (meant_1 hn) (kept_then (kept_then hk0 hW) hb) (bthen (bthen hb0 hW) hb)⟩)
     trivial
   case htail =>
     intro vs V2 hW hv
     obtain ⟨n3, h3, v3⟩ := hv.2.2.2.1
     obtain ⟨n7, h7, v7⟩ := hv.2.2.2.2.2.2.2.1
     clear hv
     simp only [List.take_succ_cons, List.take_zero, List.drop_succ_cons, List.drop_zero, frameV, Act.put, List.setIfInBounds_toArray, List.set_cons_zero, List.set_cons_succ, v3, v7]
     clear q0 q1 q2 q3 x0 x1 x2 x3 x4 x5 x6 x7 x8 x9 l0 l1 l2 l3 fx
     replace HQ := HQ.later hW
     replace HX := HX.later hW
     replace HS := HS.later hW
     replace cs := later_of hW cs
     replace hk0 := kept_then hk0 hW
     replace hb0 := bthen hb0 hW
     clear hW
     obtain ⟨q0, q1, q2, q3⟩ := fe_cells HQ
     obtain ⟨x0, x1, x2, x3, x4, x5, x6, x7, x8, x9⟩ := HX.cells
     have fx := HX.fz
     obtain ⟨l0, l1, l2, l3⟩ := strs_n HS (by rw [HN.out]; exact hle)
     go_upto_region 3 with (fail)
     go_name_world W2 hW2
     have hkv : Kept (fun k => k = px) V2 W2 := by subst hW2; exact ((Kept.refl (fun k => k = px) _).setCell (p := ⟨px, _, none⟩) (.inl rfl) _).setCell (p := ⟨px, _, none⟩) (.inl rfl) _
     have hbn : Below w0.heap.size w0 W2 := by subst hW2; have hbz := hb0.size; go_grown
     have HXn : RpBox W2 px (⟨n3, n7, 0, 0, ⟨#[]⟩, 0, 0, 0, 0, 0⟩ : Rp) := .of (by subst hW2; go_simp) (by subst hW2; go_simp) (by subst hW2; go_simp) (by subst hW2; go_simp) (by subst hW2; go_simp) (by subst hW2; go_simp) (by subst hW2; go_simp) (by subst hW2; go_simp) (by subst hW2; go_simp) (by subst hW2; go_simp) (fun j hj => (by subst hW2; simp only [World.frozen?_setCell]; exact fx j hj))
     clear q0 q1 q2 q3 x0 x1 x2 x3 x4 x5 x6 x7 x8 x9 l0 l1 l2 l3 fx
     clear hW2 hb0 HX
     have hb0 := hbn
     have HX := HXn
     replace hk0 := hk0.trans hkv fun _ _ h => h
     replace HQ := HQ.kept hkv ne2
     replace HS := HS.kept hkv (fun b o e => by cases e; exact ne3)
     replace cs := hkv.cell ne1 cs
     clear hbn HXn hkv
     obtain ⟨q0, q1, q2, q3⟩ := fe_cells HQ
     obtain ⟨x0, x1, x2, x3, x4, x5, x6, x7, x8, x9⟩ := HX.cells
     have fx := HX.fz
     obtain ⟨l0, l1, l2, l3⟩ := strs_n HS (by rw [HN.out]; exact hle)
     refine wp_region_assert 7 W2 (fun i => ([Stays.strs kindsL, Stays.val (.slice (some ⟨w.heap.size, 0, none⟩) n n), Stays.val (.pointer (some ⟨w.heap.size, 2, none⟩)), Stays.val (.string (wd L 2)), Stays.val (.int .i64 (idxS kindsL (wd L 2))), Stays.val (.int .i64 (max 0 (idxS kindsL (wd L 2)))), Stays.val (.int .u8 (max 0 (idxS kindsL (wd L 2))))] : List Stays)[i]?.getD Stays.any) (by kernel_rfl) (by kernel_rfl) (by kernel_rfl) (Below.refl _ _) ?hstep ?htail
     case hstep =>
       intro fr hfr hfd
       simp only [List.take_succ_cons, List.take_zero] at hfr ⊢
       refine ⟨?_, ?_⟩
       · intro vs W hW hd
         exact step_call (R := fun v w' => (Stays.strs kindsL).p v w' ∧ Below W.heap.size W w') (f := 135) (args := #[]) (W' := W) (by simp only [execOp]; go_simp) ((c_kinds W).mono fun e w' ⟨h1, h2, h3⟩ => ⟨_, h1, ⟨_, _, rfl, trivial, h2⟩, h3⟩) fun v w' h => ⟨v, rfl, h⟩
       refine ⟨?_, ?_⟩
       · intro vs W hW hd
         have e3 : (fr vs).tmps[3]?.getD undef = .slice (some ⟨w.heap.size, 0, none⟩) n n := (hfr.out vs 3).trans rfl
         exact sv (.slice (some ⟨w.heap.size, 0, none⟩) n n)
       refine ⟨?_, ?_⟩
       · intro vs W hW hd
         have e26 : (fr vs).tmps[26]?.getD undef = .slice (some ⟨w.heap.size, 0, none⟩) n n := (hfr.out vs 26).trans (by show vs 1 = _; exact hd.1 rfl)
         exact step_val (.pointer (some ⟨w.heap.size, 2, none⟩)) (W' := W) (by simp only [execOp]; go_simp <;> intros <;> exfalso <;> omega) ⟨_, rfl, rfl, Below.refl _ _⟩
       refine ⟨?_, ?_⟩
       · intro vs W hW hd
         have e27 : (fr vs).tmps[27]?.getD undef = .pointer (some ⟨w.heap.size, 2, none⟩) := (hfr.out vs 27).trans (by show vs 2 = _; exact hd.1 rfl)
         have kl2 := later_of hW l2
         exact sv (.string (wd L 2))
       refine ⟨?_, ?_⟩
       · intro vs W hW hd
         obtain ⟨b25, c25, hv25, hc25, hs25⟩ := hd.1 rfl
         have e25 : (fr vs).tmps[25]?.getD undef = .slice b25 (kindsL).length c25 := (hfr.out vs 25).trans (by show vs 0 = _; exact hv25)
         have e28 : (fr vs).tmps[28]?.getD undef = .string (wd L 2) := (hfr.out vs 28).trans (by show vs 3 = _; exact hd.2.1 rfl)
         exact step_call (R := fun v w' => (Stays.val (.int .i64 (idxS kindsL (wd L 2)))).p v w' ∧ Below W.heap.size W w') (f := 134) (args := #[.slice b25 kindsL.length c25, .string (wd L 2)]) (W' := W) (by simp only [execOp]; go_simp) ((c_Index (wd L 2) kindsL b25 c25 W hs25).mono fun e w' ⟨h1, h2⟩ => ⟨_, h1, rfl, h2⟩) fun v w' h => ⟨v, rfl, h⟩
       refine ⟨?_, ?_⟩
       · intro vs W hW hd
         have e29 : (fr vs).tmps[29]?.getD undef = .int .i64 (idxS kindsL (wd L 2)) := (hfr.out vs 29).trans (by show vs 4 = _; exact hd.1 rfl)
         exact sv (.int .i64 (max 0 (idxS kindsL (wd L 2))))
       refine ⟨?_, ?_⟩
       · intro vs W hW hd
         have e30 : (fr vs).tmps[30]?.getD undef = .int .i64 (max 0 (idxS kindsL (wd L 2))) := (hfr.out vs 30).trans (by show vs 5 = _; exact hd.1 rfl)
         have hkb : 0 ≤ max 0 (idxS kindsL (wd L 2)) ∧ max 0 (idxS kindsL (wd L 2)) ≤ 8 := kindW_bd L
         exact step_val (.int .u8 (max 0 (idxS kindsL (wd L 2)))) (W' := W) (by simp only [execOp]; go_simp; exact wrap_kind hkb) ⟨_, rfl, rfl, Below.refl _ _⟩
       trivial
     case htail =>
       intro vs V3 hW hv
       have v6 : vs 6 = .int .u8 (max 0 (idxS kindsL (wd L 2))) := hv.2.2.2.2.2.2.1
       clear hv
       simp only [List.take_succ_cons, List.take_zero, List.drop_succ_cons, List.drop_zero, frameV, Act.put, List.setIfInBounds_toArray, List.set_cons_zero, List.set_cons_succ, v6]
       clear q0 q1 q2 q3 x0 x1 x2 x3 x4 x5 x6 x7 x8 x9 l0 l1 l2 l3 fx
       replace HQ := HQ.later hW
       replace HX := HX.later hW
       replace HS := HS.later hW
       replace cs := later_of hW cs
       replace hk0 := kept_then hk0 hW
       replace hb0 := bthen hb0 hW
       clear hW
       obtain ⟨q0, q1, q2, q3⟩ := fe_cells HQ
       obtain ⟨x0, x1, x2, x3, x4, x5, x6, x7, x8, x9⟩ := HX.cells
       have fx := HX.fz
       obtain ⟨l0, l1, l2, l3⟩ := strs_n HS (by rw [HN.out]; exact hle)
       go_upto_region 4 with (fail)
       go_name_world W3 hW3
       have hkv : Kept (fun k => k = px) V3 W3 := by subst hW3; exact (Kept.refl (fun k => k = px) _).setCell (p := ⟨px, _, none⟩) (.inl rfl) _
       have hbn : Below w0.heap.size w0 W3 := by subst hW3; have hbz := hb0.size; go_grown
       have HXn : RpBox W3 px (⟨n3, n7, max 0 (idxS kindsL (wd L 2)), 0, ⟨#[]⟩, 0, 0, 0, 0, 0⟩ : Rp) := .of (by subst hW3; go_simp) (by subst hW3; go_simp) (by subst hW3; go_simp) (by subst hW3; go_simp) (by subst hW3; go_simp) (by subst hW3; go_simp) (by subst hW3; go_simp) (by subst hW3; go_simp) (by subst hW3; go_simp) (by subst hW3; go_simp) (fun j hj => (by subst hW3; simp only [World.frozen?_setCell]; exact fx j hj))
       clear q0 q1 q2 q3 x0 x1 x2 x3 x4 x5 x6 x7 x8 x9 l0 l1 l2 l3 fx
       clear hW3 hb0 HX
       have hb0 := hbn
       have HX := HXn
       replace hk0 := hk0.trans hkv fun _ _ h => h
       replace HQ := HQ.kept hkv ne2
       replace HS := HS.kept hkv (fun b o e => by cases e; exact ne3)
       replace cs := hkv.cell ne1 cs
       clear hbn HXn hkv
       obtain ⟨kd, hkd⟩ : ∃ k, kindW L = k := ⟨_, rfl⟩
       rw [show max 0 (idxS kindsL (wd L 2)) = kd from hkd] at HX
       obtain ⟨q0, q1, q2, q3⟩ := fe_cells HQ
       obtain ⟨x0, x1, x2, x3, x4, x5, x6, x7, x8, x9⟩ := HX.cells
       have fx := HX.fz
       obtain ⟨l0, l1, l2, l3⟩ := strs_n HS (by rw [HN.out]; exact hle)
       have HM : Hid (meantO m.f L = none) := Lib.hid (meant_no hk (by first | exact .inl (by rw [HN.out, H4.out]; decide) | exact .inr (hp H4.out)))
       have e8 : (kd == 8) = false := beq_eq_false_iff_ne.2 (fun e => hk (hkd.trans e))
       try (rw [hp H4.out] at hkd; subst hkd)
       clear hk hp
       go_wp2_with fail
       refine (c_unless_f _ _).mono ?_
       rintro e w2 ⟨rfl, rfl⟩
       go_wp2
       exact ⟨rfl, ReadOut.no HL.out HM.out hk0 hb0⟩
theorem c_ReadIn_9k (m : Fm) (s : ByteArray) (ps px pf : Nat) (w0 w : World) (h : ReadIn m s ps px pf w0 w) (L : List ByteArray) (hL : wordsB s = L) (hn : L.length = 9) (hk : ¬ kindW L = 8) (hp : 0 < kindW L) :
  Calls Tryz.prog 132 #[.pointer (some ⟨ps, 0, none⟩), .pointer (some ⟨px, 0, none⟩), .pointer (some ⟨pf, 0, none⟩)] w (ReadOut m s px w0 w) := by
 have hSp := c_Split 32 s w (h.lib.later h.b) h.size
 rw [show piecesC 32 s = L from hL, hn] at hSp
 have HSp := Lib.hid hSp
 have LB := Lib.hid h.lib
 have LM := Lib.hid h.fell
 have LF := Lib.hid h.right
 have SZ := Lib.hid (wd_size hL h.size)
 have HL := Lib.hid hL
 have HN := Lib.hid hn
 have hb0 := h.b
 have hx := h.x
 have cs := h.cs
 have HQ : CellsAt w pf 0 (feC m) := cells_4 h.q0 h.q1 h.q2 h.q3
 have HX : RpBox w px (⟨0, 0, 0, 0, ⟨#[]⟩, 0, 0, 0, 0, 0⟩ : Rp) := ⟨h.xs, h.fx⟩
 have ne1 := h.n1
 have ne2 := h.n2
 have ne3 : w.heap.size ≠ px := fun e => by have := cell_lt (h.xs 0 _ rfl); omega
 clear h hSp hL hn
 go_enter Tryz.func132, Tryz.ntmps132
 go_wp2_with fail
 refine HSp.out.mono ?_
 rintro e W1 ⟨rfl, HS, hB⟩
 have hk0 := kept_then (Kept.refl (fun k => k = px) w) hB
 replace HQ := HQ.later hB
 replace HX := HX.later hB
 replace cs := later_of hB cs
 replace hb0 := bthen hb0 hB
 clear hB HSp
 go_wp2_with fail
 refine (c_unless_t _ _).mono ?_
 rintro e w2 ⟨rfl, rfl⟩
 go_upto_region 2 with (fail)
 obtain ⟨q0, q1, q2, q3⟩ := fe_cells HQ
 obtain ⟨x0, x1, x2, x3, x4, x5, x6, x7, x8, x9⟩ := HX.cells
 have fx := HX.fz
 obtain ⟨l0, l1, l2, l3, l4, l5, l6, l7, l8⟩ := strs_9 HS HN.out
 refine wp_region_assert 8 W1 (fun i => ([Stays.val (.slice (some ⟨w.heap.size, 0, none⟩) 9 9), Stays.val (.pointer (some ⟨w.heap.size, 0, none⟩)), Stays.val (.string (wd L 0)), Stays.num (numO (wd L 0)), Stays.val (.slice (some ⟨w.heap.size, 0, none⟩) 9 9), Stays.val (.pointer (some ⟨w.heap.size, 1, none⟩)), Stays.val (.string (wd L 1)), Stays.num (numO (wd L 1))] : List Stays)[i]?.getD Stays.any) (by kernel_rfl) (by kernel_rfl) (by kernel_rfl) (Below.refl _ _) ?hstep ?htail
 case hstep =>
  intro fr hfr hfd
  simp only [List.take_succ_cons, List.take_zero] at hfr ⊢
  refine ⟨?_, ?_⟩
  ·intro vs W hW hd
   have e3 : (fr vs).tmps[3]?.getD undef = .slice (some ⟨w.heap.size, 0, none⟩) 9 9 := (hfr.out vs 3).trans rfl
   exact sv (.slice (some ⟨w.heap.size, 0, none⟩) 9 9)
  refine ⟨?_, ?_⟩
  ·intro vs W hW hd
   have e15 : (fr vs).tmps[15]?.getD undef = .slice (some ⟨w.heap.size, 0, none⟩) 9 9 := (hfr.out vs 15).trans (by show vs 0 = _; exact hd.1 rfl)
   exact sv (.pointer (some ⟨w.heap.size, 0, none⟩))
  refine ⟨?_, ?_⟩
  ·intro vs W hW hd
   have e16 : (fr vs).tmps[16]?.getD undef = .pointer (some ⟨w.heap.size, 0, none⟩) := (hfr.out vs 16).trans (by show vs 1 = _; exact hd.1 rfl)
   have kl0 := later_of hW l0
   exact sv (.string (wd L 0))
  refine ⟨?_, ?_⟩
  ·intro vs W hW hd
   have e17 : (fr vs).tmps[17]?.getD undef = .string (wd L 0) := (hfr.out vs 17).trans (by show vs 2 = _; exact hd.1 rfl)
   exact step_num (f := 133) (args := #[.string (wd L 0)]) (W' := W) (by simp only [execOp]; go_simp) (c_numW _ W (LB.out.later (bthen hb0 hW)) (SZ.out 0)) (fun n w' hn hb => ⟨_, rfl, ⟨n, hn, rfl⟩, hb⟩) (fun hn w' hb => ⟨hfd.out vs, ReadOut.no HL.out (meant_0 hn) (kept_then (kept_then hk0 hW) hb) (bthen (bthen hb0 hW) hb)⟩)
  refine ⟨?_, ?_⟩
  ·intro vs W hW hd
   have e3 : (fr vs).tmps[3]?.getD undef = .slice (some ⟨w.heap.size, 0, none⟩) 9 9 := (hfr.out vs 3).trans rfl
   exact sv (.slice (some ⟨w.heap.size, 0, none⟩) 9 9)
  refine ⟨?_, ?_⟩
  ·intro vs W hW hd
   have e19 : (fr vs).tmps[19]?.getD undef = .slice (some ⟨w.heap.size, 0, none⟩) 9 9 := (hfr.out vs 19).trans (by show vs 4 = _; exact hd.1 rfl)
   exact sv (.pointer (some ⟨w.heap.size, 1, none⟩))
  refine ⟨?_, ?_⟩
  ·intro vs W hW hd
   have e20 : (fr vs).tmps[20]?.getD undef = .pointer (some ⟨w.heap.size, 1, none⟩) := (hfr.out vs 20).trans (by show vs 5 = _; exact hd.1 rfl)
   have kl1 := later_of hW l1
   exact sv (.string (wd L 1))
  refine ⟨?_, ?_⟩
  ·intro vs W hW hd
   have e21 : (fr vs).tmps[21]?.getD undef = .string (wd L 1) := (hfr.out vs 21).trans (by show vs 6 = _; exact hd.1 rfl)
   exact step_num (f := 133) (args := #[.string (wd L 1)]) (W' := W) (by simp only [execOp]; go_simp) (c_numW _ W (LB.out.later (bthen hb0 hW)) (SZ.out 1)) (fun n w' hn hb => ⟨_, rfl, ⟨n, hn, rfl⟩, hb⟩) (fun hn w' hb => ⟨hfd.out vs, ReadOut.no HL.out (meant_1 hn) (kept_then (kept_then hk0 hW) hb) (bthen (bthen hb0 hW) hb)⟩)
  trivial
 case htail =>
  intro vs V2 hW hv
  obtain ⟨n3, h3, v3⟩ := hv.2.2.2.1
  obtain ⟨n7, h7, v7⟩ := hv.2.2.2.2.2.2.2.1
  clear hv
  simp only [List.take_succ_cons, List.take_zero, List.drop_succ_cons, List.drop_zero, frameV, Act.put, List.setIfInBounds_toArray, List.set_cons_zero, List.set_cons_succ, v3, v7]
  clear q0 q1 q2 q3 x0 x1 x2 x3 x4 x5 x6 x7 x8 x9 l0 l1 l2 l3 l4 l5 l6 l7 l8 fx
  replace HQ := HQ.later hW
  replace HX := HX.later hW
  replace HS := HS.later hW
  replace cs := later_of hW cs
  replace hk0 := kept_then hk0 hW
  replace hb0 := bthen hb0 hW
  clear hW
  obtain ⟨q0, q1, q2, q3⟩ := fe_cells HQ
  obtain ⟨x0, x1, x2, x3, x4, x5, x6, x7, x8, x9⟩ := HX.cells
  have fx := HX.fz
  obtain ⟨l0, l1, l2, l3, l4, l5, l6, l7, l8⟩ := strs_9 HS HN.out
  go_upto_region 3 with (fail)
  go_name_world W2 hW2
  have hkv : Kept (fun k => k = px) V2 W2 := by subst hW2; exact ((Kept.refl (fun k => k = px) _).setCell (p := ⟨px, _, none⟩) (.inl rfl) _).setCell (p := ⟨px, _, none⟩) (.inl rfl) _
  have hbn : Below w0.heap.size w0 W2 := by subst hW2; have hbz := hb0.size; go_grown
  have HXn : RpBox W2 px (⟨n3, n7, 0, 0, ⟨#[]⟩, 0, 0, 0, 0, 0⟩ : Rp) := .of (by subst hW2; go_simp) (by subst hW2; go_simp) (by subst hW2; go_simp) (by subst hW2; go_simp) (by subst hW2; go_simp) (by subst hW2; go_simp) (by subst hW2; go_simp) (by subst hW2; go_simp) (by subst hW2; go_simp) (by subst hW2; go_simp) (fun j hj => (by subst hW2; simp only [World.frozen?_setCell]; exact fx j hj))
  clear q0 q1 q2 q3 x0 x1 x2 x3 x4 x5 x6 x7 x8 x9 l0 l1 l2 l3 l4 l5 l6 l7 l8 fx
  clear hW2 hb0 HX
  have hb0 := hbn
  have HX := HXn
  replace hk0 := hk0.trans hkv fun _ _ h => h
  replace HQ := HQ.kept hkv ne2
  replace HS := HS.kept hkv (fun b o e => by cases e; exact ne3)
  replace cs := hkv.cell ne1 cs
  clear hbn HXn hkv
  obtain ⟨q0, q1, q2, q3⟩ := fe_cells HQ
  obtain ⟨x0, x1, x2, x3, x4, x5, x6, x7, x8, x9⟩ := HX.cells
  have fx := HX.fz
  obtain ⟨l0, l1, l2, l3, l4, l5, l6, l7, l8⟩ := strs_9 HS HN.out
  refine wp_region_assert 7 W2 (fun i => ([Stays.strs kindsL, Stays.val (.slice (some ⟨w.heap.size, 0, none⟩) 9 9), Stays.val (.pointer (some ⟨w.heap.size, 2, none⟩)), Stays.val (.string (wd L 2)), Stays.val (.int .i64 (idxS kindsL (wd L 2))), Stays.val (.int .i64 (max 0 (idxS kindsL (wd L 2)))), Stays.val (.int .u8 (max 0 (idxS kindsL (wd L 2))))] : List Stays)[i]?.getD Stays.any) (by kernel_rfl) (by kernel_rfl) (by kernel_rfl) (Below.refl _ _) ?hstep ?htail
  case hstep =>
   intro fr hfr hfd
   simp only [List.take_succ_cons, List.take_zero] at hfr ⊢
   refine ⟨?_, ?_⟩
   ·intro vs W hW hd
    exact step_call (R := fun v w' => (Stays.strs kindsL).p v w' ∧ Below W.heap.size W w') (f := 135) (args := #[]) (W' := W) (by simp only [execOp]; go_simp) ((c_kinds W).mono fun e w' ⟨h1, h2, h3⟩ => ⟨_, h1, ⟨_, _, rfl, trivial, h2⟩, h3⟩) fun v w' h => ⟨v, rfl, h⟩
   refine ⟨?_, ?_⟩
   ·intro vs W hW hd
    have e3 : (fr vs).tmps[3]?.getD undef = .slice (some ⟨w.heap.size, 0, none⟩) 9 9 := (hfr.out vs 3).trans rfl
    exact sv (.slice (some ⟨w.heap.size, 0, none⟩) 9 9)
   refine ⟨?_, ?_⟩
   ·intro vs W hW hd
    have e26 : (fr vs).tmps[26]?.getD undef = .slice (some ⟨w.heap.size, 0, none⟩) 9 9 := (hfr.out vs 26).trans (by show vs 1 = _; exact hd.1 rfl)
    exact sv (.pointer (some ⟨w.heap.size, 2, none⟩))
   refine ⟨?_, ?_⟩
   ·intro vs W hW hd
    have e27 : (fr vs).tmps[27]?.getD undef = .pointer (some ⟨w.heap.size, 2, none⟩) := (hfr.out vs 27).trans (by show vs 2 = _; exact hd.1 rfl)
    have kl2 := later_of hW l2
    exact sv (.string (wd L 2))
   refine ⟨?_, ?_⟩
   ·intro vs W hW hd
    obtain ⟨b25, c25, hv25, hc25, hs25⟩ := hd.1 rfl
    have e25 : (fr vs).tmps[25]?.getD undef = .slice b25 (kindsL).length c25 := (hfr.out vs 25).trans (by show vs 0 = _; exact hv25)
    have e28 : (fr vs).tmps[28]?.getD undef = .string (wd L 2) := (hfr.out vs 28).trans (by show vs 3 = _; exact hd.2.1 rfl)
    exact step_call (R := fun v w' => (Stays.val (.int .i64 (idxS kindsL (wd L 2)))).p v w' ∧ Below W.heap.size W w') (f := 134) (args := #[.slice b25 kindsL.length c25, .string (wd L 2)]) (W' := W) (by simp only [execOp]; go_simp) ((c_Index (wd L 2) kindsL b25 c25 W hs25).mono fun e w' ⟨h1, h2⟩ => ⟨_, h1, rfl, h2⟩) fun v w' h => ⟨v, rfl, h⟩
   refine ⟨?_, ?_⟩
   ·intro vs W hW hd
    have e29 : (fr vs).tmps[29]?.getD undef = .int .i64 (idxS kindsL (wd L 2)) := (hfr.out vs 29).trans (by show vs 4 = _; exact hd.1 rfl)
    exact sv (.int .i64 (max 0 (idxS kindsL (wd L 2))))
   refine ⟨?_, ?_⟩
   ·intro vs W hW hd
    have e30 : (fr vs).tmps[30]?.getD undef = .int .i64 (max 0 (idxS kindsL (wd L 2))) := (hfr.out vs 30).trans (by show vs 5 = _; exact hd.1 rfl)
    have hkb : 0 ≤ max 0 (idxS kindsL (wd L 2)) ∧ max 0 (idxS kindsL (wd L 2)) ≤ 8 := kindW_bd L
    exact step_val (.int .u8 (max 0 (idxS kindsL (wd L 2)))) (W' := W) (by simp only [execOp]; go_simp; exact wrap_kind hkb) ⟨_, rfl, rfl, Below.refl _ _⟩
   trivial
  case htail =>
   intro vs V3 hW hv
   have v6 : vs 6 = .int .u8 (max 0 (idxS kindsL (wd L 2))) := hv.2.2.2.2.2.2.1
   clear hv
   simp only [List.take_succ_cons, List.take_zero, List.drop_succ_cons, List.drop_zero, frameV, Act.put, List.setIfInBounds_toArray, List.set_cons_zero, List.set_cons_succ, v6]
   clear q0 q1 q2 q3 x0 x1 x2 x3 x4 x5 x6 x7 x8 x9 l0 l1 l2 l3 l4 l5 l6 l7 l8 fx
   replace HQ := HQ.later hW
   replace HX := HX.later hW
   replace HS := HS.later hW
   replace cs := later_of hW cs
   replace hk0 := kept_then hk0 hW
   replace hb0 := bthen hb0 hW
   clear hW
   obtain ⟨q0, q1, q2, q3⟩ := fe_cells HQ
   obtain ⟨x0, x1, x2, x3, x4, x5, x6, x7, x8, x9⟩ := HX.cells
   have fx := HX.fz
   obtain ⟨l0, l1, l2, l3, l4, l5, l6, l7, l8⟩ := strs_9 HS HN.out
   go_upto_region 4 with (fail)
   go_name_world W3 hW3
   have hkv : Kept (fun k => k = px) V3 W3 := by subst hW3; exact (Kept.refl (fun k => k = px) _).setCell (p := ⟨px, _, none⟩) (.inl rfl) _
   have hbn : Below w0.heap.size w0 W3 := by subst hW3; have hbz := hb0.size; go_grown
   have HXn : RpBox W3 px (⟨n3, n7, max 0 (idxS kindsL (wd L 2)), 0, ⟨#[]⟩, 0, 0, 0, 0, 0⟩ : Rp) := .of (by subst hW3; go_simp) (by subst hW3; go_simp) (by subst hW3; go_simp) (by subst hW3; go_simp) (by subst hW3; go_simp) (by subst hW3; go_simp) (by subst hW3; go_simp) (by subst hW3; go_simp) (by subst hW3; go_simp) (by subst hW3; go_simp) (fun j hj => (by subst hW3; simp only [World.frozen?_setCell]; exact fx j hj))
   clear q0 q1 q2 q3 x0 x1 x2 x3 x4 x5 x6 x7 x8 x9 l0 l1 l2 l3 l4 l5 l6 l7 l8 fx
   clear hW3 hb0 HX
   have hb0 := hbn
   have HX := HXn
   replace hk0 := hk0.trans hkv fun _ _ h => h
   replace HQ := HQ.kept hkv ne2
   replace HS := HS.kept hkv (fun b o e => by cases e; exact ne3)
   replace cs := hkv.cell ne1 cs
   clear hbn HXn hkv
   obtain ⟨kd, hkd⟩ : ∃ k, kindW L = k := ⟨_, rfl⟩
   rw [show max 0 (idxS kindsL (wd L 2)) = kd from hkd] at HX
   obtain ⟨q0, q1, q2, q3⟩ := fe_cells HQ
   obtain ⟨x0, x1, x2, x3, x4, x5, x6, x7, x8, x9⟩ := HX.cells
   have fx := HX.fz
   obtain ⟨l0, l1, l2, l3, l4, l5, l6, l7, l8⟩ := strs_9 HS HN.out
   have HK : Hid (¬ kindW L = 8) := Lib.hid hk
   have HP : Hid (0 < kindW L) := Lib.hid hp
   have e8 : (kd == 8) = false := beq_eq_false_iff_ne.2 (fun e => hk (hkd.trans e))
   have ep : decide (kd > 0) = true := decide_eq_true (by rw [← hkd]; exact hp)
   have kb : 0 ≤ kd ∧ kd ≤ 8 := by rw [← hkd]; exact kindW_bd L
   have HD := Lib.hid hkd
   clear hkd hk hp
   go_wp2_with fail
   refine (c_unless_t _ _).mono ?_
   rintro e w2 ⟨rfl, rfl⟩
   go_upto_region 7 with (fail)
   refine wp_region_assert 15 W3 (fun i => ([Stays.val (.slice (some ⟨w.heap.size, 0, none⟩) 9 9), Stays.val (.pointer (some ⟨w.heap.size, 3, none⟩)), Stays.val (.string (wd L 3)), Stays.num (numO (wd L 3)), Stays.val (.slice (some ⟨w.heap.size, 0, none⟩) 9 9), Stays.val (.pointer (some ⟨w.heap.size, 4, none⟩)), Stays.val (.string (wd L 4)), Stays.val (m.v), Stays.val (.pointer (some ⟨px, 2, none⟩)), Stays.val (.int .u8 kd), Stays.strs (thingsL m.f kd), Stays.val (.slice (some ⟨w.heap.size, 0, none⟩) 9 9), Stays.val (.pointer (some ⟨w.heap.size, 5, none⟩)), Stays.val (.string (wd L 5)), Stays.val (.int .i64 (idxS (thingsL m.f kd) (wd L 5)))] : List Stays)[i]?.getD Stays.any) (by kernel_rfl) (by kernel_rfl) (by kernel_rfl) (Below.refl _ _) ?hstep ?htail
   case hstep =>
    intro fr hfr hfd
    simp only [List.take_succ_cons, List.take_zero] at hfr ⊢
    refine ⟨?_, ?_⟩
    ·intro vs W hW hd
     have e3 : (fr vs).tmps[3]?.getD undef = .slice (some ⟨w.heap.size, 0, none⟩) 9 9 := (hfr.out vs 3).trans rfl
     exact sv (.slice (some ⟨w.heap.size, 0, none⟩) 9 9)
    refine ⟨?_, ?_⟩
    ·intro vs W hW hd
     have e50 : (fr vs).tmps[50]?.getD undef = .slice (some ⟨w.heap.size, 0, none⟩) 9 9 := (hfr.out vs 50).trans (by show vs 0 = _; exact hd.1 rfl)
     exact sv (.pointer (some ⟨w.heap.size, 3, none⟩))
    refine ⟨?_, ?_⟩
    ·intro vs W hW hd
     have e51 : (fr vs).tmps[51]?.getD undef = .pointer (some ⟨w.heap.size, 3, none⟩) := (hfr.out vs 51).trans (by show vs 1 = _; exact hd.1 rfl)
     have kl3 := later_of hW l3
     exact sv (.string (wd L 3))
    refine ⟨?_, ?_⟩
    ·intro vs W hW hd
     have e52 : (fr vs).tmps[52]?.getD undef = .string (wd L 3) := (hfr.out vs 52).trans (by show vs 2 = _; exact hd.1 rfl)
     exact step_num (f := 133) (args := #[.string (wd L 3)]) (W' := W) (by simp only [execOp]; go_simp) (c_numW _ W (LB.out.later (bthen hb0 hW)) (SZ.out 3)) (fun n w' hn hb => ⟨_, rfl, ⟨n, hn, rfl⟩, hb⟩) (fun hn w' hb => ⟨hfd.out vs, ReadOut.no HL.out (meant_kn HN.out h3 h7 HK.out HP.out (.inl hn)) (kept_then (kept_then hk0 hW) hb) (bthen (bthen hb0 hW) hb)⟩)
    refine ⟨?_, ?_⟩
    ·intro vs W hW hd
     have e3 : (fr vs).tmps[3]?.getD undef = .slice (some ⟨w.heap.size, 0, none⟩) 9 9 := (hfr.out vs 3).trans rfl
     exact sv (.slice (some ⟨w.heap.size, 0, none⟩) 9 9)
    refine ⟨?_, ?_⟩
    ·intro vs W hW hd
     have e54 : (fr vs).tmps[54]?.getD undef = .slice (some ⟨w.heap.size, 0, none⟩) 9 9 := (hfr.out vs 54).trans (by show vs 4 = _; exact hd.1 rfl)
     exact sv (.pointer (some ⟨w.heap.size, 4, none⟩))
    refine ⟨?_, ?_⟩
    ·intro vs W hW hd
     have e55 : (fr vs).tmps[55]?.getD undef = .pointer (some ⟨w.heap.size, 4, none⟩) := (hfr.out vs 55).trans (by show vs 5 = _; exact hd.1 rfl)
     have kl4 := later_of hW l4
     exact sv (.string (wd L 4))
    refine ⟨?_, ?_⟩
    ·intro vs W hW hd
     have e2 : (fr vs).tmps[2]?.getD undef = .pointer (some ⟨pf, 0, none⟩) := (hfr.out vs 2).trans rfl
     have kq0 := later_of hW q0
     have kq1 := later_of hW q1
     have kq2 := later_of hW q2
     have kq3 := later_of hW q3
     exact sv (m.v)
    refine ⟨?_, ?_⟩
    ·intro vs W hW hd
     have e1 : (fr vs).tmps[1]?.getD undef = .pointer (some ⟨px, 0, none⟩) := (hfr.out vs 1).trans rfl
     exact sv (.pointer (some ⟨px, 2, none⟩))
    refine ⟨?_, ?_⟩
    ·intro vs W hW hd
     have e58 : (fr vs).tmps[58]?.getD undef = .pointer (some ⟨px, 2, none⟩) := (hfr.out vs 58).trans (by show vs 8 = _; exact hd.1 rfl)
     have kx2 := later_of hW x2
     exact sv (.int .u8 kd)
    refine ⟨?_, ?_⟩
    ·intro vs W hW hd
     have e57 : (fr vs).tmps[57]?.getD undef = m.v := (hfr.out vs 57).trans (by show vs 7 = _; exact hd.1 rfl)
     have e59 : (fr vs).tmps[59]?.getD undef = .int .u8 kd := (hfr.out vs 59).trans (by show vs 9 = _; exact hd.2.1 rfl)
     exact step_call (R := fun v w' => (Stays.strs (thingsL m.f kd)).p v w' ∧ Below W.heap.size W w') (f := 136) (args := #[m.v, .int .u8 kd]) (W' := W) (by simp only [execOp]; go_simp) ((c_things m kd W (LM.out.later (bthen hb0 hW))).mono fun e w' ⟨⟨b, c, h1, h2⟩, h3⟩ => ⟨_, h1, ⟨_, _, rfl, trivial, h2⟩, h3⟩) fun v w' h => ⟨v, rfl, h⟩
    refine ⟨?_, ?_⟩
    ·intro vs W hW hd
     have e3 : (fr vs).tmps[3]?.getD undef = .slice (some ⟨w.heap.size, 0, none⟩) 9 9 := (hfr.out vs 3).trans rfl
     exact sv (.slice (some ⟨w.heap.size, 0, none⟩) 9 9)
    refine ⟨?_, ?_⟩
    ·intro vs W hW hd
     have e61 : (fr vs).tmps[61]?.getD undef = .slice (some ⟨w.heap.size, 0, none⟩) 9 9 := (hfr.out vs 61).trans (by show vs 11 = _; exact hd.1 rfl)
     exact sv (.pointer (some ⟨w.heap.size, 5, none⟩))
    refine ⟨?_, ?_⟩
    ·intro vs W hW hd
     have e62 : (fr vs).tmps[62]?.getD undef = .pointer (some ⟨w.heap.size, 5, none⟩) := (hfr.out vs 62).trans (by show vs 12 = _; exact hd.1 rfl)
     have kl5 := later_of hW l5
     exact sv (.string (wd L 5))
    refine ⟨?_, ?_⟩
    ·intro vs W hW hd
     obtain ⟨b60, c60, hv60, hc60, hs60⟩ := hd.1 rfl
     have e60 : (fr vs).tmps[60]?.getD undef = .slice b60 (thingsL m.f kd).length c60 := (hfr.out vs 60).trans (by show vs 10 = _; exact hv60)
     have e63 : (fr vs).tmps[63]?.getD undef = .string (wd L 5) := (hfr.out vs 63).trans (by show vs 13 = _; exact hd.2.1 rfl)
     exact step_call (R := fun v w' => (Stays.val (.int .i64 (idxS (thingsL m.f kd) (wd L 5)))).p v w' ∧ Below W.heap.size W w') (f := 134) (args := #[.slice b60 (thingsL m.f kd).length c60, .string (wd L 5)]) (W' := W) (by simp only [execOp]; go_simp) ((c_Index (wd L 5) (thingsL m.f kd) b60 c60 W hs60).mono fun e w' ⟨h1, h2⟩ => ⟨_, h1, rfl, h2⟩) fun v w' h => ⟨v, rfl, h⟩
    trivial
   case htail =>
    intro vs V7 hW hv
    obtain ⟨nb3, hb3, v3⟩ := hv.2.2.2.1
    have v6 : vs 6 = .string (wd L 4) := hv.2.2.2.2.2.2.1
    have v14 : vs 14 = .int .i64 (idxS (thingsL m.f kd) (wd L 5)) := hv.2.2.2.2.2.2.2.2.2.2.2.2.2.2.1
    clear hv
    simp only [List.take_succ_cons, List.take_zero, List.drop_succ_cons, List.drop_zero, frameV, Act.put, List.setIfInBounds_toArray, List.set_cons_zero, List.set_cons_succ, v3, v6, v14]
    clear q0 q1 q2 q3 x0 x1 x2 x3 x4 x5 x6 x7 x8 x9 l0 l1 l2 l3 l4 l5 l6 l7 l8 fx
    replace HQ := HQ.later hW
    replace HX := HX.later hW
    replace HS := HS.later hW
    replace cs := later_of hW cs
    replace hk0 := kept_then hk0 hW
    replace hb0 := bthen hb0 hW
    clear hW
    obtain ⟨q0, q1, q2, q3⟩ := fe_cells HQ
    obtain ⟨x0, x1, x2, x3, x4, x5, x6, x7, x8, x9⟩ := HX.cells
    have fx := HX.fz
    obtain ⟨l0, l1, l2, l3, l4, l5, l6, l7, l8⟩ := strs_9 HS HN.out
    go_upto_region 8 with (fail)
    go_name_world W7 hW7
    have hkv : Kept (fun k => k = px) V7 W7 := by subst hW7; exact (((Kept.refl (fun k => k = px) _).setCell (p := ⟨px, _, none⟩) (.inl rfl) _).setCell (p := ⟨px, _, none⟩) (.inl rfl) _).setCell (p := ⟨px, _, none⟩) (.inl rfl) _
    have hbn : Below w0.heap.size w0 W7 := by subst hW7; have hbz := hb0.size; go_grown
    have HXn : RpBox W7 px (⟨n3, n7, kd, nb3, wd L 4, idxS (thingsL m.f kd) (wd L 5), 0, 0, 0, 0⟩ : Rp) := .of (by subst hW7; go_simp) (by subst hW7; go_simp) (by subst hW7; go_simp) (by subst hW7; go_simp) (by subst hW7; go_simp) (by subst hW7; go_simp) (by subst hW7; go_simp) (by subst hW7; go_simp) (by subst hW7; go_simp) (by subst hW7; go_simp) (fun j hj => (by subst hW7; simp only [World.frozen?_setCell]; exact fx j hj))
    clear q0 q1 q2 q3 x0 x1 x2 x3 x4 x5 x6 x7 x8 x9 l0 l1 l2 l3 l4 l5 l6 l7 l8 fx
    clear hW7 hb0 HX
    have hb0 := hbn
    have HX := HXn
    replace hk0 := hk0.trans hkv fun _ _ h => h
    replace HQ := HQ.kept hkv ne2
    replace HS := HS.kept hkv (fun b o e => by cases e; exact ne3)
    replace cs := hkv.cell ne1 cs
    clear hbn HXn hkv
    obtain ⟨q0, q1, q2, q3⟩ := fe_cells HQ
    obtain ⟨x0, x1, x2, x3, x4, x5, x6, x7, x8, x9⟩ := HX.cells
    have fx := HX.fz
    obtain ⟨l0, l1, l2, l3, l4, l5, l6, l7, l8⟩ := strs_9 HS HN.out
    refine wp_region_assert 12 W7 (fun i => ([Stays.val (.slice (some ⟨w.heap.size, 0, none⟩) 9 9), Stays.val (.pointer (some ⟨w.heap.size, 6, none⟩)), Stays.val (.string (wd L 6)), Stays.num (numO (wd L 6)), Stays.val (.slice (some ⟨w.heap.size, 0, none⟩) 9 9), Stays.val (.pointer (some ⟨w.heap.size, 7, none⟩)), Stays.val (.string (wd L 7)), Stays.num (numO (wd L 7)), Stays.val (.slice (some ⟨w.heap.size, 0, none⟩) 9 9), Stays.val (.pointer (some ⟨w.heap.size, 8, none⟩)), Stays.val (.string (wd L 8)), Stays.num (numO (wd L 8))] : List Stays)[i]?.getD Stays.any) (by kernel_rfl) (by kernel_rfl) (by kernel_rfl) (Below.refl _ _) ?hstep ?htail
    case hstep =>
     intro fr hfr hfd
     simp only [List.take_succ_cons, List.take_zero] at hfr ⊢
     refine ⟨?_, ?_⟩
     ·intro vs W hW hd
      have e3 : (fr vs).tmps[3]?.getD undef = .slice (some ⟨w.heap.size, 0, none⟩) 9 9 := (hfr.out vs 3).trans rfl
      exact sv (.slice (some ⟨w.heap.size, 0, none⟩) 9 9)
     refine ⟨?_, ?_⟩
     ·intro vs W hW hd
      have e68 : (fr vs).tmps[68]?.getD undef = .slice (some ⟨w.heap.size, 0, none⟩) 9 9 := (hfr.out vs 68).trans (by show vs 0 = _; exact hd.1 rfl)
      exact sv (.pointer (some ⟨w.heap.size, 6, none⟩))
     refine ⟨?_, ?_⟩
     ·intro vs W hW hd
      have e69 : (fr vs).tmps[69]?.getD undef = .pointer (some ⟨w.heap.size, 6, none⟩) := (hfr.out vs 69).trans (by show vs 1 = _; exact hd.1 rfl)
      have kl6 := later_of hW l6
      exact sv (.string (wd L 6))
     refine ⟨?_, ?_⟩
     ·intro vs W hW hd
      have e70 : (fr vs).tmps[70]?.getD undef = .string (wd L 6) := (hfr.out vs 70).trans (by show vs 2 = _; exact hd.1 rfl)
      exact step_num (f := 133) (args := #[.string (wd L 6)]) (W' := W) (by simp only [execOp]; go_simp) (c_numW _ W (LB.out.later (bthen hb0 hW)) (SZ.out 6)) (fun n w' hn hb => ⟨_, rfl, ⟨n, hn, rfl⟩, hb⟩) (fun hn w' hb => ⟨hfd.out vs, ReadOut.no HL.out (meant_kn HN.out h3 h7 HK.out HP.out (.inr (.inl hn))) (kept_then (kept_then hk0 hW) hb) (bthen (bthen hb0 hW) hb)⟩)
     refine ⟨?_, ?_⟩
     ·intro vs W hW hd
      have e3 : (fr vs).tmps[3]?.getD undef = .slice (some ⟨w.heap.size, 0, none⟩) 9 9 := (hfr.out vs 3).trans rfl
      exact sv (.slice (some ⟨w.heap.size, 0, none⟩) 9 9)
     refine ⟨?_, ?_⟩
     ·intro vs W hW hd
      have e72 : (fr vs).tmps[72]?.getD undef = .slice (some ⟨w.heap.size, 0, none⟩) 9 9 := (hfr.out vs 72).trans (by show vs 4 = _; exact hd.1 rfl)
      exact sv (.pointer (some ⟨w.heap.size, 7, none⟩))
     refine ⟨?_, ?_⟩
     ·intro vs W hW hd
      have e73 : (fr vs).tmps[73]?.getD undef = .pointer (some ⟨w.heap.size, 7, none⟩) := (hfr.out vs 73).trans (by show vs 5 = _; exact hd.1 rfl)
      have kl7 := later_of hW l7
      exact sv (.string (wd L 7))
     refine ⟨?_, ?_⟩
     ·intro vs W hW hd
      have e74 : (fr vs).tmps[74]?.getD undef = .string (wd L 7) := (hfr.out vs 74).trans (by show vs 6 = _; exact hd.1 rfl)
      exact step_num (f := 133) (args := #[.string (wd L 7)]) (W' := W) (by simp only [execOp]; go_simp) (c_numW _ W (LB.out.later (bthen hb0 hW)) (SZ.out 7)) (fun n w' hn hb => ⟨_, rfl, ⟨n, hn, rfl⟩, hb⟩) (fun hn w' hb => ⟨hfd.out vs, ReadOut.no HL.out (meant_kn HN.out h3 h7 HK.out HP.out (.inr (.inr (.inl hn)))) (kept_then (kept_then hk0 hW) hb) (bthen (bthen hb0 hW) hb)⟩)
     refine ⟨?_, ?_⟩
     ·intro vs W hW hd
      have e3 : (fr vs).tmps[3]?.getD undef = .slice (some ⟨w.heap.size, 0, none⟩) 9 9 := (hfr.out vs 3).trans rfl
      exact sv (.slice (some ⟨w.heap.size, 0, none⟩) 9 9)
     refine ⟨?_, ?_⟩
     ·intro vs W hW hd
      have e76 : (fr vs).tmps[76]?.getD undef = .slice (some ⟨w.heap.size, 0, none⟩) 9 9 := (hfr.out vs 76).trans (by show vs 8 = _; exact hd.1 rfl)
      exact sv (.pointer (some ⟨w.heap.size, 8, none⟩))
     refine ⟨?_, ?_⟩
     ·intro vs W hW hd
      have e77 : (fr vs).tmps[77]?.getD undef = .pointer (some ⟨w.heap.size, 8, none⟩) := (hfr.out vs 77).trans (by show vs 9 = _; exact hd.1 rfl)
      have kl8 := later_of hW l8
      exact sv (.string (wd L 8))
     refine ⟨?_, ?_⟩
     ·intro vs W hW hd
      have e78 : (fr vs).tmps[78]?.getD undef = .string (wd L 8) := (hfr.out vs 78).trans (by show vs 10 = _; exact hd.1 rfl)
      exact step_num (f := 133) (args := #[.string (wd L 8)]) (W' := W) (by simp only [execOp]; go_simp) (c_numW _ W (LB.out.later (bthen hb0 hW)) (SZ.out 8)) (fun n w' hn hb => ⟨_, rfl, ⟨n, hn, rfl⟩, hb⟩) (fun hn w' hb => ⟨hfd.out vs, ReadOut.no HL.out (meant_kn HN.out h3 h7 HK.out HP.out (.inr (.inr (.inr hn)))) (kept_then (kept_then hk0 hW) hb) (bthen (bthen hb0 hW) hb)⟩)
     trivial
    case htail =>
     intro vs V8 hW hv
     obtain ⟨nc3, hc3, v3⟩ := hv.2.2.2.1
     obtain ⟨nc7, hc7, v7⟩ := hv.2.2.2.2.2.2.2.1
     obtain ⟨nc11, hc11, v11⟩ := hv.2.2.2.2.2.2.2.2.2.2.2.1
     clear hv
     simp only [List.take_succ_cons, List.take_zero, List.drop_succ_cons, List.drop_zero, frameV, Act.put, List.setIfInBounds_toArray, List.set_cons_zero, List.set_cons_succ, v3, v7, v11]
     clear q0 q1 q2 q3 x0 x1 x2 x3 x4 x5 x6 x7 x8 x9 l0 l1 l2 l3 l4 l5 l6 l7 l8 fx
     replace HQ := HQ.later hW
     replace HX := HX.later hW
     replace HS := HS.later hW
     replace cs := later_of hW cs
     replace hk0 := kept_then hk0 hW
     replace hb0 := bthen hb0 hW
     clear hW
     obtain ⟨q0, q1, q2, q3⟩ := fe_cells HQ
     obtain ⟨x0, x1, x2, x3, x4, x5, x6, x7, x8, x9⟩ := HX.cells
     have fx := HX.fz
     obtain ⟨l0, l1, l2, l3, l4, l5, l6, l7, l8⟩ := strs_9 HS HN.out
     go_upto_region 9 with (fail)
     go_name_world W8 hW8
     have hkv : Kept (fun k => k = px) V8 W8 := by subst hW8; exact (((Kept.refl (fun k => k = px) _).setCell (p := ⟨px, _, none⟩) (.inl rfl) _).setCell (p := ⟨px, _, none⟩) (.inl rfl) _).setCell (p := ⟨px, _, none⟩) (.inl rfl) _
     have hbn : Below w0.heap.size w0 W8 := by subst hW8; have hbz := hb0.size; go_grown
     have HXn : RpBox W8 px (⟨n3, n7, kd, nb3, wd L 4, idxS (thingsL m.f kd) (wd L 5), nc3, nc7, nc11, 0⟩ : Rp) := .of (by subst hW8; go_simp) (by subst hW8; go_simp) (by subst hW8; go_simp) (by subst hW8; go_simp) (by subst hW8; go_simp) (by subst hW8; go_simp) (by subst hW8; go_simp) (by subst hW8; go_simp) (by subst hW8; go_simp) (by subst hW8; go_simp) (fun j hj => (by subst hW8; simp only [World.frozen?_setCell]; exact fx j hj))
     clear q0 q1 q2 q3 x0 x1 x2 x3 x4 x5 x6 x7 x8 x9 l0 l1 l2 l3 l4 l5 l6 l7 l8 fx
     clear hW8 hb0 HX
     have hb0 := hbn
     have HX := HXn
     replace hk0 := hk0.trans hkv fun _ _ h => h
     replace HQ := HQ.kept hkv ne2
     replace HS := HS.kept hkv (fun b o e => by cases e; exact ne3)
     replace cs := hkv.cell ne1 cs
     clear hbn HXn hkv
     obtain ⟨q0, q1, q2, q3⟩ := fe_cells HQ
     obtain ⟨x0, x1, x2, x3, x4, x5, x6, x7, x8, x9⟩ := HX.cells
     have fx := HX.fz
     obtain ⟨l0, l1, l2, l3, l4, l5, l6, l7, l8⟩ := strs_9 HS HN.out
     have HM : Hid (meantO m.f L = some (⟨n3, n7, kd, nb3, wd L 4, idxS (thingsL m.f kd) (wd L 5), nc3, nc7, nc11, 0⟩ : Rp)) := Lib.hid (by rw [meant_k HN.out h3 h7 HK.out HP.out, hb3, hc3, hc7, hc11, HD.out])
     go_wp2_with fail
     refine (c_judge m (⟨n3, n7, kd, nb3, wd L 4, idxS (thingsL m.f kd) (wd L 5), nc3, nc7, nc11, 0⟩ : Rp) _ (right_of LF.out).small ⟨kb.1, by show kd ≤ 255; omega⟩).mono ?_
     rintro e V9 ⟨rfl, hB⟩
     clear q0 q1 q2 q3 x0 x1 x2 x3 x4 x5 x6 x7 x8 x9 l0 l1 l2 l3 l4 l5 l6 l7 l8 fx
     replace HQ := HQ.later hB
     replace HX := HX.later hB
     replace HS := HS.later hB
     replace cs := later_of hB cs
     replace hk0 := kept_then hk0 hB
     replace hb0 := bthen hb0 hB
     clear hB
     by_cases hj : judgeE m.f (⟨n3, n7, kd, nb3, wd L 4, idxS (thingsL m.f kd) (wd L 5), nc3, nc7, nc11, 0⟩ : Rp) = 0
     case neg =>
      have HJ := Lib.hid hj
      rw [endV_no hj]
      clear hj
      dsimp only
      go_wp2
      exact ⟨rfl, ReadOut.judge HL.out HM.out HJ.out hk0 hb0⟩
     rw [show endV (judgeE m.f (⟨n3, n7, kd, nb3, wd L 4, idxS (thingsL m.f kd) (wd L 5), nc3, nc7, nc11, 0⟩ : Rp)) = .returned (.tuple #[]) from by rw [hj]; rfl]
     dsimp only
     have HJ := Lib.hid hj
     clear hj
     go_upto_region 10 with (fail)
     by_cases hs : lineV m.f (⟨n3, n7, kd, nb3, wd L 4, idxS (thingsL m.f kd) (wd L 5), nc3, nc7, nc11, 0⟩ : Rp) = s
     case pos =>
      have hq : ((lineV m.f (⟨n3, n7, kd, nb3, wd L 4, idxS (thingsL m.f kd) (wd L 5), nc3, nc7, nc11, 0⟩ : Rp)).toList == s.toList) = true := by rw [hs]; simp
      have HS2 := Lib.hid hs
      clear hs
      obtain ⟨q0, q1, q2, q3⟩ := fe_cells HQ
      obtain ⟨x0, x1, x2, x3, x4, x5, x6, x7, x8, x9⟩ := HX.cells
      have fx := HX.fz
      obtain ⟨l0, l1, l2, l3, l4, l5, l6, l7, l8⟩ := strs_9 HS HN.out
      refine wp_region_assert 5 V9 (fun i => ([Stays.val (m.v), Stays.val (.agg #[.int .i64 n3, .int .i64 n7, .int .u8 kd, .int .i64 nb3, .string (wd L 4), .int .i64 (idxS (thingsL m.f kd) (wd L 5)), .int .i64 nc3, .int .i64 nc7, .int .i64 nc11, .int .i64 0]), Stays.val (.string (lineV m.f (⟨n3, n7, kd, nb3, wd L 4, idxS (thingsL m.f kd) (wd L 5), nc3, nc7, nc11, 0⟩ : Rp))), Stays.val (.string s), Stays.val (.bool true)] : List Stays)[i]?.getD Stays.any) (by kernel_rfl) (by kernel_rfl) (by kernel_rfl) (Below.refl _ _) ?hstep ?htail
      case hstep =>
       intro fr hfr hfd
       simp only [List.take_succ_cons, List.take_zero] at hfr ⊢
       refine ⟨?_, ?_⟩
       ·intro vs W hW hd
        have e2 : (fr vs).tmps[2]?.getD undef = .pointer (some ⟨pf, 0, none⟩) := (hfr.out vs 2).trans rfl
        have kq0 := later_of hW q0
        have kq1 := later_of hW q1
        have kq2 := later_of hW q2
        have kq3 := later_of hW q3
        exact sv (m.v)
       refine ⟨?_, ?_⟩
       ·intro vs W hW hd
        have e1 : (fr vs).tmps[1]?.getD undef = .pointer (some ⟨px, 0, none⟩) := (hfr.out vs 1).trans rfl
        have kx0 := later_of hW x0
        have kx1 := later_of hW x1
        have kx2 := later_of hW x2
        have kx3 := later_of hW x3
        have kx4 := later_of hW x4
        have kx5 := later_of hW x5
        have kx6 := later_of hW x6
        have kx7 := later_of hW x7
        have kx8 := later_of hW x8
        have kx9 := later_of hW x9
        exact sv (.agg #[.int .i64 n3, .int .i64 n7, .int .u8 kd, .int .i64 nb3, .string (wd L 4), .int .i64 (idxS (thingsL m.f kd) (wd L 5)), .int .i64 nc3, .int .i64 nc7, .int .i64 nc11, .int .i64 0])
       refine ⟨?_, ?_⟩
       ·intro vs W hW hd
        have e86 : (fr vs).tmps[86]?.getD undef = m.v := (hfr.out vs 86).trans (by show vs 0 = _; exact hd.1 rfl)
        have e87 : (fr vs).tmps[87]?.getD undef = .agg #[.int .i64 n3, .int .i64 n7, .int .u8 kd, .int .i64 nb3, .string (wd L 4), .int .i64 (idxS (thingsL m.f kd) (wd L 5)), .int .i64 nc3, .int .i64 nc7, .int .i64 nc11, .int .i64 0] := (hfr.out vs 87).trans (by show vs 1 = _; exact hd.2.1 rfl)
        exact step_call (R := fun v w' => (Stays.val (.string (lineV m.f (⟨n3, n7, kd, nb3, wd L 4, idxS (thingsL m.f kd) (wd L 5), nc3, nc7, nc11, 0⟩ : Rp)))).p v w' ∧ Below W.heap.size W w') (f := 131) (args := #[m.v, .agg #[.int .i64 n3, .int .i64 n7, .int .u8 kd, .int .i64 nb3, .string (wd L 4), .int .i64 (idxS (thingsL m.f kd) (wd L 5)), .int .i64 nc3, .int .i64 nc7, .int .i64 nc11, .int .i64 0]]) (W' := W) (by simp only [execOp]; go_simp) ((c_line m (⟨n3, n7, kd, nb3, wd L 4, idxS (thingsL m.f kd) (wd L 5), nc3, nc7, nc11, 0⟩ : Rp) W (LM.out.later (bthen hb0 hW)) (LB.out.later (bthen hb0 hW)) LF.out (judge_ok HJ.out)).mono fun e w' ⟨h1, h2⟩ => ⟨_, h1, rfl, h2⟩) fun v w' h => ⟨v, rfl, h⟩
       refine ⟨?_, ?_⟩
       ·intro vs W hW hd
        have e0 : (fr vs).tmps[0]?.getD undef = .pointer (some ⟨ps, 0, none⟩) := (hfr.out vs 0).trans rfl
        have kcs := later_of hW cs
        exact sv (.string s)
       refine ⟨?_, ?_⟩
       ·intro vs W hW hd
        have e88 : (fr vs).tmps[88]?.getD undef = .string (lineV m.f (⟨n3, n7, kd, nb3, wd L 4, idxS (thingsL m.f kd) (wd L 5), nc3, nc7, nc11, 0⟩ : Rp)) := (hfr.out vs 88).trans (by show vs 2 = _; exact hd.1 rfl)
        have e89 : (fr vs).tmps[89]?.getD undef = .string s := (hfr.out vs 89).trans (by show vs 3 = _; exact hd.2.1 rfl)
        exact sv (.bool true)
       trivial
      case htail =>
       intro vs V10 hW hv
       have v4 : vs 4 = .bool true := hv.2.2.2.2.1
       clear hv
       simp only [List.take_succ_cons, List.take_zero, List.drop_succ_cons, List.drop_zero, frameV, Act.put, List.setIfInBounds_toArray, List.set_cons_zero, List.set_cons_succ, v4]
       clear q0 q1 q2 q3 x0 x1 x2 x3 x4 x5 x6 x7 x8 x9 l0 l1 l2 l3 l4 l5 l6 l7 l8 fx
       replace HQ := HQ.later hW
       replace HX := HX.later hW
       replace HS := HS.later hW
       replace cs := later_of hW cs
       replace hk0 := kept_then hk0 hW
       replace hb0 := bthen hb0 hW
       clear hW
       go_wp2_with fail
       refine (c_unless_t _ _).mono ?_
       rintro e w2 ⟨rfl, rfl⟩
       go_wp2
       go_end0
       exact ReadOut.ok HL.out HM.out HJ.out HS2.out hk0 hb0 HX.at'
     case neg =>
      have hq : ((lineV m.f (⟨n3, n7, kd, nb3, wd L 4, idxS (thingsL m.f kd) (wd L 5), nc3, nc7, nc11, 0⟩ : Rp)).toList == s.toList) = false := beq_eq_false_iff_ne.2 (fun h => hs (tl_inj h))
      have HS2 := Lib.hid hs
      clear hs
      obtain ⟨q0, q1, q2, q3⟩ := fe_cells HQ
      obtain ⟨x0, x1, x2, x3, x4, x5, x6, x7, x8, x9⟩ := HX.cells
      have fx := HX.fz
      obtain ⟨l0, l1, l2, l3, l4, l5, l6, l7, l8⟩ := strs_9 HS HN.out
      refine wp_region_assert 5 V9 (fun i => ([Stays.val (m.v), Stays.val (.agg #[.int .i64 n3, .int .i64 n7, .int .u8 kd, .int .i64 nb3, .string (wd L 4), .int .i64 (idxS (thingsL m.f kd) (wd L 5)), .int .i64 nc3, .int .i64 nc7, .int .i64 nc11, .int .i64 0]), Stays.val (.string (lineV m.f (⟨n3, n7, kd, nb3, wd L 4, idxS (thingsL m.f kd) (wd L 5), nc3, nc7, nc11, 0⟩ : Rp))), Stays.val (.string s), Stays.val (.bool false)] : List Stays)[i]?.getD Stays.any) (by kernel_rfl) (by kernel_rfl) (by kernel_rfl) (Below.refl _ _) ?hstep ?htail
      case hstep =>
       intro fr hfr hfd
       simp only [List.take_succ_cons, List.take_zero] at hfr ⊢
       refine ⟨?_, ?_⟩
       ·intro vs W hW hd
        have e2 : (fr vs).tmps[2]?.getD undef = .pointer (some ⟨pf, 0, none⟩) := (hfr.out vs 2).trans rfl
        have kq0 := later_of hW q0
        have kq1 := later_of hW q1
        have kq2 := later_of hW q2
        have kq3 := later_of hW q3
        exact sv (m.v)
       refine ⟨?_, ?_⟩
       ·intro vs W hW hd
        have e1 : (fr vs).tmps[1]?.getD undef = .pointer (some ⟨px, 0, none⟩) := (hfr.out vs 1).trans rfl
        have kx0 := later_of hW x0
        have kx1 := later_of hW x1
        have kx2 := later_of hW x2
        have kx3 := later_of hW x3
        have kx4 := later_of hW x4
        have kx5 := later_of hW x5
        have kx6 := later_of hW x6
        have kx7 := later_of hW x7
        have kx8 := later_of hW x8
        have kx9 := later_of hW x9
        exact sv (.agg #[.int .i64 n3, .int .i64 n7, .int .u8 kd, .int .i64 nb3, .string (wd L 4), .int .i64 (idxS (thingsL m.f kd) (wd L 5)), .int .i64 nc3, .int .i64 nc7, .int .i64 nc11, .int .i64 0])
       refine ⟨?_, ?_⟩
       ·intro vs W hW hd
        have e86 : (fr vs).tmps[86]?.getD undef = m.v := (hfr.out vs 86).trans (by show vs 0 = _; exact hd.1 rfl)
        have e87 : (fr vs).tmps[87]?.getD undef = .agg #[.int .i64 n3, .int .i64 n7, .int .u8 kd, .int .i64 nb3, .string (wd L 4), .int .i64 (idxS (thingsL m.f kd) (wd L 5)), .int .i64 nc3, .int .i64 nc7, .int .i64 nc11, .int .i64 0] := (hfr.out vs 87).trans (by show vs 1 = _; exact hd.2.1 rfl)
        exact step_call (R := fun v w' => (Stays.val (.string (lineV m.f (⟨n3, n7, kd, nb3, wd L 4, idxS (thingsL m.f kd) (wd L 5), nc3, nc7, nc11, 0⟩ : Rp)))).p v w' ∧ Below W.heap.size W w') (f := 131) (args := #[m.v, .agg #[.int .i64 n3, .int .i64 n7, .int .u8 kd, .int .i64 nb3, .string (wd L 4), .int .i64 (idxS (thingsL m.f kd) (wd L 5)), .int .i64 nc3, .int .i64 nc7, .int .i64 nc11, .int .i64 0]]) (W' := W) (by simp only [execOp]; go_simp) ((c_line m (⟨n3, n7, kd, nb3, wd L 4, idxS (thingsL m.f kd) (wd L 5), nc3, nc7, nc11, 0⟩ : Rp) W (LM.out.later (bthen hb0 hW)) (LB.out.later (bthen hb0 hW)) LF.out (judge_ok HJ.out)).mono fun e w' ⟨h1, h2⟩ => ⟨_, h1, rfl, h2⟩) fun v w' h => ⟨v, rfl, h⟩
       refine ⟨?_, ?_⟩
       ·intro vs W hW hd
        have e0 : (fr vs).tmps[0]?.getD undef = .pointer (some ⟨ps, 0, none⟩) := (hfr.out vs 0).trans rfl
        have kcs := later_of hW cs
        exact sv (.string s)
       refine ⟨?_, ?_⟩
       ·intro vs W hW hd
        have e88 : (fr vs).tmps[88]?.getD undef = .string (lineV m.f (⟨n3, n7, kd, nb3, wd L 4, idxS (thingsL m.f kd) (wd L 5), nc3, nc7, nc11, 0⟩ : Rp)) := (hfr.out vs 88).trans (by show vs 2 = _; exact hd.1 rfl)
        have e89 : (fr vs).tmps[89]?.getD undef = .string s := (hfr.out vs 89).trans (by show vs 3 = _; exact hd.2.1 rfl)
        exact sv (.bool false)
       trivial
      case htail =>
       intro vs V10 hW hv
       have v4 : vs 4 = .bool false := hv.2.2.2.2.1
       clear hv
       simp only [List.take_succ_cons, List.take_zero, List.drop_succ_cons, List.drop_zero, frameV, Act.put, List.setIfInBounds_toArray, List.set_cons_zero, List.set_cons_succ, v4]
       clear q0 q1 q2 q3 x0 x1 x2 x3 x4 x5 x6 x7 x8 x9 l0 l1 l2 l3 l4 l5 l6 l7 l8 fx
       replace HQ := HQ.later hW
       replace HX := HX.later hW
       replace HS := HS.later hW
       replace cs := later_of hW cs
       replace hk0 := kept_then hk0 hW
       replace hb0 := bthen hb0 hW
       clear hW
       go_wp2_with fail
       refine (c_unless_f _ _).mono ?_
       rintro e w2 ⟨rfl, rfl⟩
       go_wp2
       exact ⟨rfl, ReadOut.line HL.out HM.out HJ.out HS2.out hk0 hb0⟩
theorem c_ReadIn_len (m : Fm) (s : ByteArray) (ps px pf : Nat) (w0 w : World) (h : ReadIn m s ps px pf w0 w) (L : List ByteArray) (hL : wordsB s = L) (h4 : ¬ L.length = 4) (h9 : ¬ L.length = 9) :
  Calls Tryz.prog 132 #[.pointer (some ⟨ps, 0, none⟩), .pointer (some ⟨px, 0, none⟩), .pointer (some ⟨pf, 0, none⟩)] w (ReadOut m s px w0 w) := by
 have hSp := c_Split 32 s w (h.lib.later h.b) h.size
 rw [show piecesC 32 s = L from hL] at hSp
 have HSp := Lib.hid hSp
 have HM : Hid (meantO m.f L = none) := Lib.hid (meant_len h4 h9)
 have HL := Lib.hid hL
 have hb0 := h.b
 have cs := h.cs
 have e4 : ((L.length : Int) == 4) = false := beq_eq_false_iff_ne.2 (by omega)
 have e9 : ((L.length : Int) == 9) = false := beq_eq_false_iff_ne.2 (by omega)
 clear h hSp hL h4 h9
 go_enter Tryz.func132, Tryz.ntmps132
 go_wp2_with fail
 refine HSp.out.mono ?_
 rintro e W1 ⟨rfl, hst, hB⟩
 have hk0 := kept_then (Kept.refl (fun k => k = px) w) hB
 have hbn := bthen hb0 hB
 clear hb0 hB hst HSp
 go_wp2_with fail
 refine (c_unless_f _ _).mono ?_
 rintro e w2 ⟨rfl, rfl⟩
 go_wp2
 exact ⟨rfl, ReadOut.no HL.out HM.out hk0 hbn⟩
theorem c_ReadIn (m : Fm) (s : ByteArray) (ps px pf : Nat) (w0 w : World) (h : ReadIn m s ps px pf w0 w) :
  Calls Tryz.prog 132 #[.pointer (some ⟨ps, 0, none⟩), .pointer (some ⟨px, 0, none⟩), .pointer (some ⟨pf, 0, none⟩)] w (ReadOut m s px w0 w) := by
 obtain ⟨L, hL⟩ : ∃ L, wordsB s = L := ⟨_, rfl⟩
 by_cases h4 : L.length = 4
 ·by_cases hk : kindW L = 8
  ·exact c_ReadIn_v m s ps px pf w0 w h L hL 4 h4 (.inl rfl) hk
  ·exact c_ReadIn_n m s ps px pf w0 w h L hL 4 h4 (.inl rfl) hk (fun e => absurd e (by decide))
 ·by_cases h9 : L.length = 9
  ·by_cases hk : kindW L = 8
   ·exact c_ReadIn_v m s ps px pf w0 w h L hL 9 h9 (.inr rfl) hk
   ·by_cases h0 : kindW L = 0
    ·exact c_ReadIn_n m s ps px pf w0 w h L hL 9 h9 (.inr rfl) hk (fun _ => h0)
    ·exact c_ReadIn_9k m s ps px pf w0 w h L hL h9 hk (by have := kindW_bd L; omega)
  ·exact c_ReadIn_len m s ps px pf w0 w h L hL h4 h9
end Go.Proofs.YtlppdgaogdpajaaGreatDoor
