/- This text is a part of the proof: Print. -/
import Derived.Test.YtlppdgaogdpajaaGreatDoorK28
set_option maxRecDepth 100000
set_option maxHeartbeats 8000000
namespace Go.Proofs.YtlppdgaogdpajaaGreatDoor
open Go.RowKit Go.Shelf
attribute [local go_sem] Oper.semAt_some
def headP (f : Fe) : ByteArray := wFell ++ sp ++ itoaS f.ticks ++ sp ++ itoaS f.yields
def placeS (p : Pl) : ByteArray := (if p.kind = 1 then wHeaf else wFold) ++ sp ++ p.name
def gateS (f : Fe) (g : Gt) : ByteArray := wGate ++ sp ++ g.name ++ sp ++ wd (plNames f.places) g.a.toNat ++ sp ++ wd (plNames f.places) g.b.toNat ++ sp ++ itoaS g.most
theorem printL_eq (f : Fe) : printL f = [headP f] ++ f.places.map placeS ++ f.gates.map (gateS f) := rfl
def wGateS : ByteArray := ⟨#[103, 97, 116, 101, 32]⟩
theorem names_all {l : List ByteArray} (h : l.any (fun s => !nameB s) = false) {s : ByteArray} (hs : s ∈ l) : nameB s = true := by
 have := List.any_eq_false.1 h s hs
 simpa using this
theorem joined_len (s : UInt8) (B : Nat) : ∀ (l : List (List UInt8)), (∀ p ∈ l, p.length ≤ B) → (Lib.join l [s]).length ≤ (B + 1) * l.length
 | [], _ => by simp [Lib.join, List.intercalate]
 | [p], h => by
  have := h p (by simp)
  simp [Lib.join, List.intercalate, List.intersperse]
  omega
 | p :: q :: l, h => by
  have ih := joined_len s B (q :: l) fun x hx => h x (by simp at hx ⊢; exact .inr hx)
  have hp := h p (by simp)
  have e : Lib.join (p :: q :: l) [s] = p ++ s :: Lib.join (q :: l) [s] := by simp [Lib.join, List.intercalate, List.intersperse]
  rw [e]
  simp only [List.length_append, List.length_cons, Nat.mul_add] at ih ⊢
  omega
theorem lines_small {f : Fe} (h : checkE f = 0) : (printL f).length ≤ 100 ∧ (Lib.join ((printL f).map (·.data.toList)) (nl).data.toList).length ≤ 100000 := by
 have hr := right_of h
 have h1 := hr.p8
 have h2 := hr.g12
 have hlen : (printL f).length ≤ 21 := by
  rw [printL_eq]
  simp only [List.length_append, List.length_map, List.length_cons, List.length_nil]
  omega
 have hy := rg_iff.1 hr.y
 have ht := hr.t1
 have ht2 := hr.t24
 have nm : ∀ p ∈ f.places, p.name.size ≤ 24 := fun p hp => (nameB_size (names_all hr.pn (List.mem_map.2 ⟨p, hp, rfl⟩))).2
 have hsz : ∀ s ∈ printL f, s.size ≤ 500 := by
  intro s hs
  rw [printL_eq] at hs
  have e1 : sp.size = 1 := rfl
  rcases List.mem_append.1 hs with hs | hs
  ·rcases List.mem_append.1 hs with hs | hs
   ·simp only [List.mem_cons, List.not_mem_nil, or_false] at hs
    subst hs
    have s1 := itoa_small (n := f.ticks) (by omega) (by omega)
    have s2 := itoa_small (n := f.yields) (by omega) (by omega)
    have e2 : wFell.size = 4 := rfl
    unfold headP
    simp only [ByteArray.size_append]
    omega
   ·obtain ⟨p, hp, rfl⟩ := List.mem_map.1 hs
    have := nm p hp
    have e2 : wHeaf.size = 4 := rfl
    have e3 : wFold.size = 4 := rfl
    unfold placeS
    split <;> simp only [ByteArray.size_append] <;> omega
  ·obtain ⟨g, hg, rfl⟩ := List.mem_map.1 hs
   have h1 := (nameB_size (names_all hr.gn (List.mem_map.2 ⟨g, hg, rfl⟩))).2
   have hm := rg_iff.1 (show rg 0 1000 g.most = true from by simpa using List.any_eq_false.1 hr.mo g hg)
   have s1 := itoa_small (n := g.most) (by omega) (by omega)
   have e2 : wGate.size = 4 := rfl
   have wz : ∀ k, (wd (plNames f.places) k).size ≤ 24 := by
    intro k
    unfold wd
    cases e : (plNames f.places)[k]? with
    | none => exact (by decide)
    | some s =>
     obtain ⟨p, hp, rfl⟩ := List.mem_map.1 (List.mem_of_getElem? e)
     exact nm p hp
   have w1 := wz g.a.toNat
   have w2 := wz g.b.toNat
   unfold gateS
   simp only [ByteArray.size_append]
   omega
 refine ⟨by omega, ?_⟩
 have := joined_len 10 500 ((printL f).map (·.data.toList)) (fun p hp => by
  obtain ⟨s, hs, rfl⟩ := List.mem_map.1 hp
  have e : s.data.toList.length = s.size := Array.length_toList
  rw [e]
  exact hsz s hs)
 rw [List.length_map] at this
 refine Nat.le_trans this ?_
 omega
def wHeafS : ByteArray := ⟨#[104, 101, 97, 102, 32]⟩
def wFoldS : ByteArray := ⟨#[102, 111, 108, 100, 32]⟩
def Stays.row (base : Nat) (l : List ByteArray) : Stays := ⟨fun v W => OwnS W base v l, fun _ _ _ h hb => ownsRow_kept h (Kept.of_below (O := fun _ => False) hb) fun _ _ e => e⟩
theorem row_one (W : World) (base : Nat) (x : ByteArray) (hb : base ≤ W.heap.size) : OwnS (W.alloc (.cells #[.string x] 9)) base (.slice (some ⟨W.heap.size, 0, none⟩) 1 1) [x] :=
 World.ownsRow_lit W #[.string x] 1 hb (by decide) rfl
theorem c_Print_no (m : Fm) (w : World) (hm : m.In w) (h : checkE m.f ≠ 0) : Calls Tryz.prog 23 #[m.v] w fun e w' => e = .returned (.string (printV m.f)) ∧ Below w.heap.size w w' := by
 rw [show printV m.f = ⟨#[]⟩ from if_pos h]
 have hC := fun W (hb : Below w.heap.size w W) => c_CheckFell m W (hm.later hb)
 obtain ⟨E, hE⟩ : ∃ E, checkE m.f = E := ⟨_, rfl⟩
 rw [hE] at h
 have hC2 := fun W hb => by have := hC W hb; rw [hE] at this; exact this
 have HC := Lib.hid hC2
 have ne : (E == 0) = false := beq_eq_false_iff_ne.2 h
 clear hC hC2 hE h hm
 go_enter Tryz.func23, Tryz.ntmps23
 go_upto_region 1 with (fail)
 go_name_world W1 hW1
 have hb0 : Below w.heap.size w W1 := by subst hW1; go_grown
 obtain ⟨q0, q1, q2, q3⟩ := (show QB m W1 w.heap.size from by subst hW1; and_intros <;> go_simp)
 clear hW1
 go_wp2_with fail
 refine (HC.out _ hb0).mono ?_
 rintro e W2 ⟨rfl, hB⟩
 have hbn := bthen hb0 hB
 go_wp2
 go_ret
 exact ⟨rfl, hbn⟩
theorem c_Print_ok (m : Fm) (w : World) (hm : m.In w) (hl : LibW w) (h : checkE m.f = 0) : Calls Tryz.prog 23 #[m.v] w fun e w' => e = .returned (.string (printV m.f)) ∧ Below w.heap.size w w' := by
 have hC := fun W (hb : Below w.heap.size w W) => c_CheckFell m W (hm.later hb)
 have hC2 := fun W hb => by have := hC W hb; rw [h] at this; exact this
 have HC := Lib.hid hC2
 have hRt := right_of h
 have hI := fun n (hn : Int64 n) W (hb : Below w.heap.size w W) => c_Itoa n W (hl.later hb) hn
 have HI := Lib.hid hI
 have HM := Lib.hid hm
 have HL := Lib.hid hl
 have HRT := Lib.hid hRt
 have HF := Lib.hid h
 have hP := hRt.p8
 have hG := hRt.g12
 have ht1 := hRt.t1
 have ht2 := hRt.t24
 have hy := rg_iff.1 hRt.y
 have s1 : (itoaS m.f.ticks).size ≤ 100 := itoa_small (by omega) (by omega)
 have s2 : (itoaS m.f.yields).size ≤ 100 := itoa_small (by omega) (by omega)
 obtain ⟨i0, hi0, hz0, hz1, hz2⟩ := info_parts str_info
 clear hC hC2 hm hl h hI hRt
 go_enter Tryz.func23, Tryz.ntmps23
 go_upto_region 1 with (fail)
 go_name_world W0 hW0
 have hb0 : Below w.heap.size w W0 := by subst hW0; go_grown
 obtain ⟨q0, q1, q2, q3⟩ := (show QB m W0 w.heap.size from by subst hW0; and_intros <;> go_simp)
 clear hW0
 go_wp2_with fail
 refine (HC.out _ hb0).mono ?_
 rintro e W1 ⟨rfl, hB⟩
 have zz := cl4 hB q0 q1 q2 q3
 clear q0 q1 q2 q3
 obtain ⟨q0, q1, q2, q3⟩ := zz
 have hbn := bthen hb0 hB
 clear hb0 hB HC
 have hb0 := hbn
 clear hbn
 have zq := cell_lt q0
 go_upto_region 3 with (fail)
 refine wp_region_assert 10 W1 (fun i => ([Stays.val (.pointer (some ⟨w.heap.size, 0, none⟩)), Stays.val (.int .i64 m.f.ticks), Stays.val (.string (itoaS m.f.ticks)), Stays.val (.string (((⟨#[102, 101, 108, 108, 32]⟩) : ByteArray) ++ (itoaS m.f.ticks))), Stays.val (.string ((((⟨#[102, 101, 108, 108, 32]⟩) : ByteArray) ++ (itoaS m.f.ticks)) ++ ((⟨#[32]⟩) : ByteArray))), Stays.val (.pointer (some ⟨w.heap.size, 1, none⟩)), Stays.val (.int .i64 m.f.yields), Stays.val (.string (itoaS m.f.yields)), Stays.val (.string (((((⟨#[102, 101, 108, 108, 32]⟩) : ByteArray) ++ (itoaS m.f.ticks)) ++ ((⟨#[32]⟩) : ByteArray)) ++ (itoaS m.f.yields))), Stays.row (w.heap.size + 1) [(((((⟨#[102, 101, 108, 108, 32]⟩) : ByteArray) ++ (itoaS m.f.ticks)) ++ ((⟨#[32]⟩) : ByteArray)) ++ (itoaS m.f.yields))]] : List Stays)[i]?.getD Stays.any) (by kernel_rfl) (by kernel_rfl) (by kernel_rfl) (Below.refl _ _) ?hstep ?htail
 case hstep =>
  intro fr hfr hfd
  simp only [List.take_succ_cons, List.take_zero] at hfr ⊢
  refine ⟨?_, ?_⟩
  ·intro vs W hW hd
   have e1 : (fr vs).tmps[1]?.getD undef = .pointer (some ⟨w.heap.size, 0, none⟩) := (hfr.out vs 1).trans rfl
   exact sv (.pointer (some ⟨w.heap.size, 0, none⟩))
  refine ⟨?_, ?_⟩
  ·intro vs W hW hd
   have e11 : (fr vs).tmps[11]?.getD undef = .pointer (some ⟨w.heap.size, 0, none⟩) := (hfr.out vs 11).trans (by show vs 0 = _; exact hd.1 rfl)
   have kq0 := later_of hW q0
   exact sv (.int .i64 m.f.ticks)
  refine ⟨?_, ?_⟩
  ·intro vs W hW hd
   have e12 : (fr vs).tmps[12]?.getD undef = .int .i64 m.f.ticks := (hfr.out vs 12).trans (by show vs 1 = _; exact hd.1 rfl)
   exact step_call (R := fun v w' => v = .string (itoaS m.f.ticks) ∧ Below W.heap.size W w') (f := 95) (args := #[.int .i64 m.f.ticks]) (W' := W) (by simp only [execOp]; go_simp) ((HI.out _ (by unfold Int64; omega) W (bthen hb0 hW)).mono fun e w' ⟨h1, h2⟩ => ⟨_, h1, rfl, h2⟩) fun v w' h => ⟨v, rfl, h⟩
  refine ⟨?_, ?_⟩
  ·intro vs W hW hd
   have e13 : (fr vs).tmps[13]?.getD undef = .string (itoaS m.f.ticks) := (hfr.out vs 13).trans (by show vs 2 = _; exact hd.1 rfl)
   exact step_val (.string (((⟨#[102, 101, 108, 108, 32]⟩) : ByteArray) ++ (itoaS m.f.ticks))) (W' := W) (by simp only [execOp]; go_simp <;> omega) ⟨_, rfl, rfl, Below.refl _ _⟩
  refine ⟨?_, ?_⟩
  ·intro vs W hW hd
   have e14 : (fr vs).tmps[14]?.getD undef = .string (((⟨#[102, 101, 108, 108, 32]⟩) : ByteArray) ++ (itoaS m.f.ticks)) := (hfr.out vs 14).trans (by show vs 3 = _; exact hd.1 rfl)
   exact step_val (.string ((((⟨#[102, 101, 108, 108, 32]⟩) : ByteArray) ++ (itoaS m.f.ticks)) ++ ((⟨#[32]⟩) : ByteArray))) (W' := W) (by simp only [execOp]; go_simp <;> omega) ⟨_, rfl, rfl, Below.refl _ _⟩
  refine ⟨?_, ?_⟩
  ·intro vs W hW hd
   have e1 : (fr vs).tmps[1]?.getD undef = .pointer (some ⟨w.heap.size, 0, none⟩) := (hfr.out vs 1).trans rfl
   exact sv (.pointer (some ⟨w.heap.size, 1, none⟩))
  refine ⟨?_, ?_⟩
  ·intro vs W hW hd
   have e16 : (fr vs).tmps[16]?.getD undef = .pointer (some ⟨w.heap.size, 1, none⟩) := (hfr.out vs 16).trans (by show vs 5 = _; exact hd.1 rfl)
   have kq1 := later_of hW q1
   exact sv (.int .i64 m.f.yields)
  refine ⟨?_, ?_⟩
  ·intro vs W hW hd
   have e17 : (fr vs).tmps[17]?.getD undef = .int .i64 m.f.yields := (hfr.out vs 17).trans (by show vs 6 = _; exact hd.1 rfl)
   exact step_call (R := fun v w' => v = .string (itoaS m.f.yields) ∧ Below W.heap.size W w') (f := 95) (args := #[.int .i64 m.f.yields]) (W' := W) (by simp only [execOp]; go_simp) ((HI.out _ (by unfold Int64; omega) W (bthen hb0 hW)).mono fun e w' ⟨h1, h2⟩ => ⟨_, h1, rfl, h2⟩) fun v w' h => ⟨v, rfl, h⟩
  refine ⟨?_, ?_⟩
  ·intro vs W hW hd
   have e15 : (fr vs).tmps[15]?.getD undef = .string ((((⟨#[102, 101, 108, 108, 32]⟩) : ByteArray) ++ (itoaS m.f.ticks)) ++ ((⟨#[32]⟩) : ByteArray)) := (hfr.out vs 15).trans (by show vs 4 = _; exact hd.1 rfl)
   have e18 : (fr vs).tmps[18]?.getD undef = .string (itoaS m.f.yields) := (hfr.out vs 18).trans (by show vs 7 = _; exact hd.2.1 rfl)
   exact step_val (.string (((((⟨#[102, 101, 108, 108, 32]⟩) : ByteArray) ++ (itoaS m.f.ticks)) ++ ((⟨#[32]⟩) : ByteArray)) ++ (itoaS m.f.yields))) (W' := W) (by simp only [execOp]; go_simp <;> omega) ⟨_, rfl, rfl, Below.refl _ _⟩
  refine ⟨?_, ?_⟩
  ·intro vs W hW hd
   have e19 : (fr vs).tmps[19]?.getD undef = .string (((((⟨#[102, 101, 108, 108, 32]⟩) : ByteArray) ++ (itoaS m.f.ticks)) ++ ((⟨#[32]⟩) : ByteArray)) ++ (itoaS m.f.yields)) := (hfr.out vs 19).trans (by show vs 8 = _; exact hd.1 rfl)
   exact step_val (.slice (some ⟨W.heap.size, 0, none⟩) 1 1) (W' := W.alloc (.cells #[.string (((((⟨#[102, 101, 108, 108, 32]⟩) : ByteArray) ++ (itoaS m.f.ticks)) ++ ((⟨#[32]⟩) : ByteArray)) ++ (itoaS m.f.yields))] 9)) (by simp only [execOp]; go_simp) ⟨_, rfl, row_one W _ _ (by have := hW.size; omega), by go_grown⟩
  trivial
 case htail =>
  intro vs W2 hW hv
  have hrow : OwnS W2 (w.heap.size + 1) (vs 9) [headP m.f] := hv.2.2.2.2.2.2.2.2.2.1
  obtain ⟨v3, hv3⟩ : ∃ v, vs 9 = v := ⟨_, rfl⟩
  rw [hv3] at hrow
  clear hv
  simp only [List.take_succ_cons, List.take_zero, List.drop_succ_cons, List.drop_zero, frameV, Act.put, List.setIfInBounds_toArray, List.set_cons_zero, List.set_cons_succ, hv3]
  have hbw := bthen hb0 hW
  have zz := cl4 hW q0 q1 q2 q3
  clear q0 q1 q2 q3
  obtain ⟨q0, q1, q2, q3⟩ := zz
  clear hb0 hW hv3
  have hb0 := hbw
  clear hbw
  have HRW := Lib.hid hrow
  clear hrow
  go_wp2
  have HB0 := Lib.hid hb0
  have HQ := Lib.hid (show CellsAt W2 w.heap.size 0 (feC m) from cells_4 q0 q1 q2 q3)
  clear hb0 q0 q1 q2 q3
  go_loopw [3, 24] (fun v3 v24 wr => ∃ k : Nat, k ≤ m.f.places.length ∧ v24 = .int .i64 k ∧ OwnS wr (w.heap.size + 1) v3 ([headP m.f] ++ (m.f.places.take k).map placeS) ∧ CellsAt wr w.heap.size 0 (feC m) ∧ Below w.heap.size w wr) (fun _ v24 _ => m.f.places.length - (intOf v24).toNat)
  case atStart => exact ⟨0, by omega, rfl, by simpa using HRW.out, HQ.out, HB0.out⟩
  case round =>
   clear HRW HQ HB0
   obtain ⟨k, hk, rfl, hown, hcq, hb⟩ := hrel
   have HO := Lib.hid hown
   have HQ := Lib.hid hcq
   have zr := hb.size
   have zq2 := cell_lt (fe_cells hcq).1
   clear hown hcq
   by_cases hlt : k < m.f.places.length
   ·obtain ⟨x, hx⟩ := some_at hlt
    obtain ⟨b, o, hpa, hat⟩ := (HM.out.later hb).pl.at hx
    obtain ⟨y0, y1⟩ := pl_cells hat
    have zy := cell_lt y0
    have HN := Lib.hid (show [headP m.f] ++ (m.f.places.take (k + 1)).map placeS = ([headP m.f] ++ (m.f.places.take k).map placeS) ++ [placeS x] from by rw [take_some hx, List.map_append, List.append_assoc]; rfl)
    have hi1 : ¬ (k : Int) < 0 := by omega
    have hi2 : (k : Int) < (m.f.places.length : Int) := by omega
    have hkd : x.kind = 1 ∨ x.kind = 2 := by
     have := List.any_eq_false.1 HRT.out.kd x (some_mem hx)
     unfold kindBad at this
     simp at this
     omega
    obtain ⟨kn, hkn, hk3, hk0⟩ : ∃ kn : Nat, x.kind = kn ∧ kn < 3 ∧ 1 ≤ kn := ⟨x.kind.toNat, by omega, by omega, by omega⟩
    have HX := Lib.hid (show placeS x = wd ([⟨#[]⟩, wHeafS, wFoldS]) (kn) ++ x.name from by
     unfold placeS
     rcases hkd with h | h
     ·obtain rfl : kn = 1 := by omega
      rw [if_pos h]
      rfl
     ·obtain rfl : kn = 2 := by omega
      rw [if_neg (by omega)]
      rfl)
    rw [HX.out] at HN
    have hz1' : (wd ([⟨#[]⟩, wHeafS, wFoldS]) kn).size ≤ 5 := by
     have : kn = 1 ∨ kn = 2 := by omega
     rcases this with rfl | rfl <;> decide
    have hz2' : x.name.size ≤ 24 := (nameB_size (names_all HRT.out.pn (List.mem_map.2 ⟨x, some_mem hx, rfl⟩))).2
    rw [hkn] at y1
    clear hkd hkn
    rw [hpa]
    go_upto_region 7 with (fail)
    go_name_world W6 hW6
    have hBa : Below wr.heap.size wr W6 := by subst hW6; go_grown
    have p0 : W6.cell? ⟨wr.heap.size, 0, none⟩ = some (.string x.name) := by subst hW6; go_simp
    have p1 : W6.cell? ⟨wr.heap.size, 1, none⟩ = some (.int .u8 (kn : Int)) := by subst hW6; go_simp
    clear hW6 y0 y1 hat
    have hbA := bthen hb hBa
    have hb0 := hbA
    refine wp_region_assert 10 W6 (fun i => ([Stays.val (u3), Stays.strs ([⟨#[]⟩, wHeafS, wFoldS]), Stays.val (.pointer (some ⟨wr.heap.size, 1, none⟩)), Stays.val (.int .u8 (kn : Int)), Stays.ptr (.string (wd ([⟨#[]⟩, wHeafS, wFoldS]) (kn))), Stays.val (.string (wd ([⟨#[]⟩, wHeafS, wFoldS]) (kn))), Stays.val (.pointer (some ⟨wr.heap.size, 0, none⟩)), Stays.val (.string x.name), Stays.val (.string ((wd ([⟨#[]⟩, wHeafS, wFoldS]) (kn)) ++ x.name)), Stays.one strC ((wd ([⟨#[]⟩, wHeafS, wFoldS]) (kn)) ++ x.name)] : List Stays)[i]?.getD Stays.any) (by kernel_rfl) (by kernel_rfl) (by kernel_rfl) (Below.refl _ _) ?hstep ?htail
    case hstep =>
     intro fr hfr hfd
     simp only [List.take_succ_cons, List.take_zero] at hfr ⊢
     refine ⟨?_, ?_⟩
     ·intro vs W hW hd
      have e3 : (fr vs).tmps[3]?.getD undef = u3 := (hfr.out vs 3).trans rfl
      exact sv (u3)
     refine ⟨?_, ?_⟩
     ·intro vs W hW hd
      have hs := Lst.new strC_len W ([⟨#[]⟩, wHeafS, wFoldS]) 9 (Nat.le_of_ble_eq_true rfl)
      exact step_val (.slice (some ⟨W.heap.size, 0, none⟩) 3 3) (W' := W.alloc (.cells (cellsL strC ([⟨#[]⟩, wHeafS, wFoldS])).toArray 9)) (by simp only [execOp]; go_simp; rfl) ⟨_, rfl, ⟨_, _, rfl, trivial, hs⟩, by go_grown⟩
     refine ⟨?_, ?_⟩
     ·intro vs W hW hd
      have e5 : (fr vs).tmps[5]?.getD undef = .pointer (some ⟨wr.heap.size, 0, none⟩) := (hfr.out vs 5).trans rfl
      exact sv (.pointer (some ⟨wr.heap.size, 1, none⟩))
     refine ⟨?_, ?_⟩
     ·intro vs W hW hd
      have e30 : (fr vs).tmps[30]?.getD undef = .pointer (some ⟨wr.heap.size, 1, none⟩) := (hfr.out vs 30).trans (by show vs 2 = _; exact hd.1 rfl)
      have kp1 := later_of hW p1
      exact sv (.int .u8 (kn : Int))
     refine ⟨?_, ?_⟩
     ·intro vs W hW hd
      obtain ⟨b29, c29, hv29, hc29, hs29⟩ := hd.1 rfl
      have e29 : (fr vs).tmps[29]?.getD undef = .slice b29 ([⟨#[]⟩, wHeafS, wFoldS]).length c29 := (hfr.out vs 29).trans (by show vs 1 = _; exact hv29)
      have e31 : (fr vs).tmps[31]?.getD undef = .int .u8 (kn : Int) := (hfr.out vs 31).trans (by show vs 3 = _; exact hd.2.1 rfl)
      obtain ⟨g, o, rfl, hg⟩ := hs29.at (wd_some (show kn < ([⟨#[]⟩, wHeafS, wFoldS]).length from hk3))
      have hg1 := str_cell hg
      rw [Nat.mul_one] at hg1
      have g2 : kn < ([⟨#[]⟩, wHeafS, wFoldS] : List ByteArray).length := hk3
      exact step_val (.pointer (some ⟨g, o + kn, none⟩)) (W' := W) (by simp only [execOp]; go_simp; intros; exfalso; omega) ⟨_, rfl, ⟨_, _, rfl, hg1⟩, Below.refl _ _⟩
     refine ⟨?_, ?_⟩
     ·intro vs W hW hd
      obtain ⟨b32, o32, hv32, hk32⟩ := hd.1 rfl
      have e32 : (fr vs).tmps[32]?.getD undef = .pointer (some ⟨b32, o32, none⟩) := (hfr.out vs 32).trans (by show vs 4 = _; exact hv32)
      exact sv (.string (wd ([⟨#[]⟩, wHeafS, wFoldS]) (kn)))
     refine ⟨?_, ?_⟩
     ·intro vs W hW hd
      have e5 : (fr vs).tmps[5]?.getD undef = .pointer (some ⟨wr.heap.size, 0, none⟩) := (hfr.out vs 5).trans rfl
      exact sv (.pointer (some ⟨wr.heap.size, 0, none⟩))
     refine ⟨?_, ?_⟩
     ·intro vs W hW hd
      have e34 : (fr vs).tmps[34]?.getD undef = .pointer (some ⟨wr.heap.size, 0, none⟩) := (hfr.out vs 34).trans (by show vs 6 = _; exact hd.1 rfl)
      have kp0 := later_of hW p0
      exact sv (.string x.name)
     refine ⟨?_, ?_⟩
     ·intro vs W hW hd
      have e33 : (fr vs).tmps[33]?.getD undef = .string (wd ([⟨#[]⟩, wHeafS, wFoldS]) (kn)) := (hfr.out vs 33).trans (by show vs 5 = _; exact hd.1 rfl)
      have e35 : (fr vs).tmps[35]?.getD undef = .string x.name := (hfr.out vs 35).trans (by show vs 7 = _; exact hd.2.1 rfl)
      exact step_val (.string ((wd ([⟨#[]⟩, wHeafS, wFoldS]) (kn)) ++ x.name)) (W' := W) (by simp only [execOp]; go_simp <;> omega) ⟨_, rfl, rfl, Below.refl _ _⟩
     refine ⟨?_, ?_⟩
     ·intro vs W hW hd
      have e36 : (fr vs).tmps[36]?.getD undef = .string ((wd ([⟨#[]⟩, wHeafS, wFoldS]) (kn)) ++ x.name) := (hfr.out vs 36).trans (by show vs 8 = _; exact hd.1 rfl)
      refine step_val (.slice (some ⟨W.heap.size, 0, none⟩) 1 1) (W' := W.alloc (.cells (strC ((wd ([⟨#[]⟩, wHeafS, wFoldS]) (kn)) ++ x.name)).toArray 9)) (by simp only [execOp]; go_simp; rfl) ⟨_, rfl, ⟨_, rfl, ?_⟩, by go_grown⟩
      intro j u hj
      rw [Nat.zero_add]
      exact new_cell W (strC ((wd ([⟨#[]⟩, wHeafS, wFoldS]) (kn)) ++ x.name)) _ hj
     trivial
    case htail =>
     intro vs V hW hv
     obtain ⟨bn, v9, hcn⟩ := hv.2.2.2.2.2.2.2.2.2.1
     have v0 : vs 0 = u3 := hv.1
     clear hv
     simp only [List.take_succ_cons, List.take_zero, List.drop_succ_cons, List.drop_zero, frameV, Act.put, List.setIfInBounds_toArray, List.set_cons_zero, List.set_cons_succ, v0, v9]
     have HOV := Lib.hid (own_below (own_below HO.out hBa) hW)
     have HQV := Lib.hid ((HQ.out.later hBa).later hW)
     have hbV := bthen hbA hW
     have zV := hbV.size
     have zV1 := hBa.size
     have zV2 := hW.size
     have hnum : ([headP m.f] ++ (m.f.places.take k).map placeS).length ≤ 100 := by simp; omega
     refine wpList_append_own_at _ (by rfl) _ _ 93 (by rfl) (w.heap.size + 1) 9 i0 _ 1 16 Tryz.underlying93 hi0 hz0 hz1 hz2 (by rfl) (by decide) _ _ _ (by rfl) HOV.out ⟨bn, 0, none⟩ 1 1 (strC (wd ([⟨#[]⟩, wHeafS, wFoldS]) (kn) ++ x.name)) (by rfl) (by rfl) (one_add hcn) (by simp [strC, Value.oneCell']) (by unfold maxLen; omega) (by omega) (by omega) ?_
     intro v' w1 hown' hgrow _ hat
     have hown2 : OwnS w1 (w.heap.size + 1) v' ([headP m.f] ++ (m.f.places.take (k + 1)).map placeS) := by
      rw [HN.out]
      unfold OwnS
      rw [List.length_append, cellsL_snoc]
      exact hown'
     have hkg := kept_of_grown hgrow
     have hbb : Below w.heap.size w w1 := hbV.trans (hkg.below hbV.size (fun j hj => by have := (HOV.out.lt j hj).1; omega))
     have hcq : CellsAt w1 w.heap.size 0 (feC m) := HQV.out.kept hkg (fun e => by have := (HOV.out.lt _ e).1; omega)
     have HB := Lib.hid hbb
     have HW2 := Lib.hid hown2
     have HCQ := Lib.hid hcq
     clear hown' hgrow hat hown2 hbb hkg hcq hbV hW hcn hBa hbA
     go_wp2
     go_roundw
     case rel => exact ⟨_, _, _, ⟨k + 1, by omega, by go_num, by simpa [List.map_take] using HW2.out, HCQ.out, HB.out⟩, rfl, rfl, rfl⟩
     case measure => simp [intOf]; omega
   ·obtain rfl : k = m.f.places.length := by omega
    have hown := HO.out
    rw [List.take_length] at hown
    have HRW := Lib.hid hown
    have hb0 := hb
    obtain ⟨q0, q1, q2, q3⟩ := fe_cells HQ.out
    clear hown HO HQ hb hk hlt zr zq2
    go_wp2
    have HB0 := Lib.hid hb0
    have HQ := Lib.hid (show CellsAt wr w.heap.size 0 (feC m) from cells_4 q0 q1 q2 q3)
    clear hb0 q0 q1 q2 q3
    go_loopw [3, 43] (fun v3 v43 wr => ∃ k : Nat, k ≤ m.f.gates.length ∧ v43 = .int .i64 k ∧ OwnS wr (w.heap.size + 1) v3 ([headP m.f] ++ m.f.places.map placeS ++ (m.f.gates.take k).map (gateS m.f)) ∧ CellsAt wr w.heap.size 0 (feC m) ∧ Below w.heap.size w wr) (fun _ v43 _ => m.f.gates.length - (intOf v43).toNat)
    case atStart => exact ⟨0, by omega, rfl, by simpa using HRW.out, HQ.out, HB0.out⟩
    case round =>
     clear HRW HQ HB0
     obtain ⟨k, hk, rfl, hown, hcq, hb⟩ := hrel
     have HO := Lib.hid hown
     have HQ := Lib.hid hcq
     have zr := hb.size
     have zq2 := cell_lt (fe_cells hcq).1
     clear hown hcq
     by_cases hlt : k < m.f.gates.length
     ·obtain ⟨x, hx⟩ := some_at hlt
      obtain ⟨b, o, hpa, hat⟩ := (HM.out.later hb).gt.at hx
      obtain ⟨y0, y1, y2, y3⟩ := gt_cells hat
      have zy := cell_lt y0
      have HN := Lib.hid (show [headP m.f] ++ m.f.places.map placeS ++ (m.f.gates.take (k + 1)).map (gateS m.f) = ([headP m.f] ++ m.f.places.map placeS ++ (m.f.gates.take k).map (gateS m.f)) ++ [gateS m.f x] from by rw [take_some hx, List.map_append, ← List.append_assoc]; rfl)
      have hi1 : ¬ (k : Int) < 0 := by omega
      have hi2 : (k : Int) < (m.f.gates.length : Int) := by omega
      obtain ⟨⟨ea0, ea1⟩, eb0, eb1⟩ := ends_of HRT.out (some_mem hx)
      obtain ⟨ka, hka⟩ : ∃ n : Nat, x.a = n := ⟨x.a.toNat, by omega⟩
      obtain ⟨kb, hkb⟩ : ∃ n : Nat, x.b = n := ⟨x.b.toNat, by omega⟩
      obtain ⟨xa, hxa⟩ := some_at (show ka < m.f.places.length by omega)
      obtain ⟨xb, hxb⟩ := some_at (show kb < m.f.places.length by omega)
      obtain ⟨pb, po, hpp, hata⟩ := (HM.out.later hb).pl.at hxa
      obtain ⟨pb2, po2, hpp2, hatb⟩ := (HM.out.later hb).pl.at hxb
      rw [hpp] at hpp2
      cases hpp2
      have za0 := (pl_cells hata).1
      have zb0 := (pl_cells hatb).1
      have hmo := rg_iff.1 (show rg 0 1000 x.most = true from by simpa using List.any_eq_false.1 HRT.out.mo x (some_mem hx))
      have HX := Lib.hid (show gateS m.f x = wGateS ++ x.name ++ sp ++ xa.name ++ sp ++ xb.name ++ sp ++ itoaS x.most from by
       unfold gateS
       rw [hka, hkb, Int.toNat_natCast, Int.toNat_natCast, show wd (plNames m.f.places) ka = xa.name from by unfold wd plNames; rw [List.getElem?_map, hxa]; rfl, show wd (plNames m.f.places) kb = xb.name from by unfold wd plNames; rw [List.getElem?_map, hxb]; rfl]
       rfl)
      rw [HX.out] at HN
      have sz := fun (p : Pl) (hp : p ∈ m.f.places) => (nameB_size (names_all HRT.out.pn (List.mem_map.2 ⟨p, hp, rfl⟩))).2
      have sa := sz xa (some_mem hxa)
      have sb := sz xb (some_mem hxb)
      have sn := (nameB_size (names_all HRT.out.gn (List.mem_map.2 ⟨x, some_mem hx, rfl⟩))).2
      have sm := itoa_small (n := x.most) (by omega) (by omega)
      obtain ⟨_, _, q2, _⟩ := fe_cells HQ.out
      rw [hpp] at q2
      rw [hka] at y1 ea0 ea1
      rw [hkb] at y2 eb0 eb1
      clear sz hata hatb hxa hxb hka hkb
      rw [hpa]
      go_upto_region 12 with (fail)
      go_name_world W6 hW6
      have hBa : Below wr.heap.size wr W6 := by subst hW6; go_grown
      have p0 : W6.cell? ⟨wr.heap.size, 0, none⟩ = some (.string x.name) := by subst hW6; go_simp
      have p1 : W6.cell? ⟨wr.heap.size, 1, none⟩ = some (.int .i64 (ka : Int)) := by subst hW6; go_simp
      have p2 : W6.cell? ⟨wr.heap.size, 2, none⟩ = some (.int .i64 (kb : Int)) := by subst hW6; go_simp
      have p3 : W6.cell? ⟨wr.heap.size, 3, none⟩ = some (.int .i64 x.most) := by subst hW6; go_simp
      clear hW6 y0 y1 y2 y3 hat
      have hbA := bthen hb hBa
      have hb0 := hbA
      replace q2 := later_of hBa q2
      refine wp_region_assert 28 W6 (fun i => ([Stays.val (u3), Stays.val (.pointer (some ⟨wr.heap.size, 0, none⟩)), Stays.val (.string x.name), Stays.val (.string (((⟨#[103, 97, 116, 101, 32]⟩) : ByteArray) ++ x.name)), Stays.val (.string ((((⟨#[103, 97, 116, 101, 32]⟩) : ByteArray) ++ x.name) ++ ((⟨#[32]⟩) : ByteArray))), Stays.val (.pointer (some ⟨w.heap.size, 2, none⟩)), Stays.val (.slice (some ⟨pb, po, none⟩) m.f.places.length m.pc), Stays.val (.pointer (some ⟨wr.heap.size, 1, none⟩)), Stays.val (.int .i64 (ka : Int)), Stays.val (.pointer (some ⟨pb, po + ka * 2, none⟩)), Stays.val (.pointer (some ⟨pb, po + ka * 2, none⟩)), Stays.val (.string xa.name), Stays.val (.string (((((⟨#[103, 97, 116, 101, 32]⟩) : ByteArray) ++ x.name) ++ ((⟨#[32]⟩) : ByteArray)) ++ xa.name)), Stays.val (.string ((((((⟨#[103, 97, 116, 101, 32]⟩) : ByteArray) ++ x.name) ++ ((⟨#[32]⟩) : ByteArray)) ++ xa.name) ++ ((⟨#[32]⟩) : ByteArray))), Stays.val (.pointer (some ⟨w.heap.size, 2, none⟩)), Stays.val (.slice (some ⟨pb, po, none⟩) m.f.places.length m.pc), Stays.val (.pointer (some ⟨wr.heap.size, 2, none⟩)), Stays.val (.int .i64 (kb : Int)), Stays.val (.pointer (some ⟨pb, po + kb * 2, none⟩)), Stays.val (.pointer (some ⟨pb, po + kb * 2, none⟩)), Stays.val (.string xb.name), Stays.val (.string (((((((⟨#[103, 97, 116, 101, 32]⟩) : ByteArray) ++ x.name) ++ ((⟨#[32]⟩) : ByteArray)) ++ xa.name) ++ ((⟨#[32]⟩) : ByteArray)) ++ xb.name)), Stays.val (.string ((((((((⟨#[103, 97, 116, 101, 32]⟩) : ByteArray) ++ x.name) ++ ((⟨#[32]⟩) : ByteArray)) ++ xa.name) ++ ((⟨#[32]⟩) : ByteArray)) ++ xb.name) ++ ((⟨#[32]⟩) : ByteArray))), Stays.val (.pointer (some ⟨wr.heap.size, 3, none⟩)), Stays.val (.int .i64 x.most), Stays.val (.string (itoaS x.most)), Stays.val (.string (((((((((⟨#[103, 97, 116, 101, 32]⟩) : ByteArray) ++ x.name) ++ ((⟨#[32]⟩) : ByteArray)) ++ xa.name) ++ ((⟨#[32]⟩) : ByteArray)) ++ xb.name) ++ ((⟨#[32]⟩) : ByteArray)) ++ (itoaS x.most))), Stays.one strC (((((((((⟨#[103, 97, 116, 101, 32]⟩) : ByteArray) ++ x.name) ++ ((⟨#[32]⟩) : ByteArray)) ++ xa.name) ++ ((⟨#[32]⟩) : ByteArray)) ++ xb.name) ++ ((⟨#[32]⟩) : ByteArray)) ++ (itoaS x.most))] : List Stays)[i]?.getD Stays.any) (by kernel_rfl) (by kernel_rfl) (by kernel_rfl) (Below.refl _ _) ?hstep ?htail
      case hstep =>
       intro fr hfr hfd
       simp only [List.take_succ_cons, List.take_zero] at hfr ⊢
       refine ⟨?_, ?_⟩
       ·intro vs W hW hd
        have e3 : (fr vs).tmps[3]?.getD undef = u3 := (hfr.out vs 3).trans rfl
        exact sv (u3)
       refine ⟨?_, ?_⟩
       ·intro vs W hW hd
        have e7 : (fr vs).tmps[7]?.getD undef = .pointer (some ⟨wr.heap.size, 0, none⟩) := (hfr.out vs 7).trans rfl
        exact sv (.pointer (some ⟨wr.heap.size, 0, none⟩))
       refine ⟨?_, ?_⟩
       ·intro vs W hW hd
        have e48 : (fr vs).tmps[48]?.getD undef = .pointer (some ⟨wr.heap.size, 0, none⟩) := (hfr.out vs 48).trans (by show vs 1 = _; exact hd.1 rfl)
        have kp0 := later_of hW p0
        exact sv (.string x.name)
       refine ⟨?_, ?_⟩
       ·intro vs W hW hd
        have e49 : (fr vs).tmps[49]?.getD undef = .string x.name := (hfr.out vs 49).trans (by show vs 2 = _; exact hd.1 rfl)
        exact step_val (.string (((⟨#[103, 97, 116, 101, 32]⟩) : ByteArray) ++ x.name)) (W' := W) (by simp only [execOp]; go_simp <;> omega) ⟨_, rfl, rfl, Below.refl _ _⟩
       refine ⟨?_, ?_⟩
       ·intro vs W hW hd
        have e50 : (fr vs).tmps[50]?.getD undef = .string (((⟨#[103, 97, 116, 101, 32]⟩) : ByteArray) ++ x.name) := (hfr.out vs 50).trans (by show vs 3 = _; exact hd.1 rfl)
        exact step_val (.string ((((⟨#[103, 97, 116, 101, 32]⟩) : ByteArray) ++ x.name) ++ ((⟨#[32]⟩) : ByteArray))) (W' := W) (by simp only [execOp]; go_simp <;> omega) ⟨_, rfl, rfl, Below.refl _ _⟩
       refine ⟨?_, ?_⟩
       ·intro vs W hW hd
        have e1 : (fr vs).tmps[1]?.getD undef = .pointer (some ⟨w.heap.size, 0, none⟩) := (hfr.out vs 1).trans rfl
        exact sv (.pointer (some ⟨w.heap.size, 2, none⟩))
       refine ⟨?_, ?_⟩
       ·intro vs W hW hd
        have e52 : (fr vs).tmps[52]?.getD undef = .pointer (some ⟨w.heap.size, 2, none⟩) := (hfr.out vs 52).trans (by show vs 5 = _; exact hd.1 rfl)
        have kq2 := later_of hW q2
        exact sv (.slice (some ⟨pb, po, none⟩) m.f.places.length m.pc)
       refine ⟨?_, ?_⟩
       ·intro vs W hW hd
        have e7 : (fr vs).tmps[7]?.getD undef = .pointer (some ⟨wr.heap.size, 0, none⟩) := (hfr.out vs 7).trans rfl
        exact sv (.pointer (some ⟨wr.heap.size, 1, none⟩))
       refine ⟨?_, ?_⟩
       ·intro vs W hW hd
        have e54 : (fr vs).tmps[54]?.getD undef = .pointer (some ⟨wr.heap.size, 1, none⟩) := (hfr.out vs 54).trans (by show vs 7 = _; exact hd.1 rfl)
        have kp1 := later_of hW p1
        exact sv (.int .i64 (ka : Int))
       refine ⟨?_, ?_⟩
       ·intro vs W hW hd
        have e53 : (fr vs).tmps[53]?.getD undef = .slice (some ⟨pb, po, none⟩) m.f.places.length m.pc := (hfr.out vs 53).trans (by show vs 6 = _; exact hd.1 rfl)
        have e55 : (fr vs).tmps[55]?.getD undef = .int .i64 (ka : Int) := (hfr.out vs 55).trans (by show vs 8 = _; exact hd.2.1 rfl)
        exact step_val (.pointer (some ⟨pb, po + ka * 2, none⟩)) (W' := W) (by simp only [execOp]; go_simp; intros; first | (exfalso; omega) | skip) ⟨_, rfl, rfl, Below.refl _ _⟩
       refine ⟨?_, ?_⟩
       ·intro vs W hW hd
        have e56 : (fr vs).tmps[56]?.getD undef = .pointer (some ⟨pb, po + ka * 2, none⟩) := (hfr.out vs 56).trans (by show vs 9 = _; exact hd.1 rfl)
        exact sv (.pointer (some ⟨pb, po + ka * 2, none⟩))
       refine ⟨?_, ?_⟩
       ·intro vs W hW hd
        have e57 : (fr vs).tmps[57]?.getD undef = .pointer (some ⟨pb, po + ka * 2, none⟩) := (hfr.out vs 57).trans (by show vs 10 = _; exact hd.1 rfl)
        have kz := later_of hW (later_of hBa za0)
        exact sv (.string xa.name)
       refine ⟨?_, ?_⟩
       ·intro vs W hW hd
        have e51 : (fr vs).tmps[51]?.getD undef = .string ((((⟨#[103, 97, 116, 101, 32]⟩) : ByteArray) ++ x.name) ++ ((⟨#[32]⟩) : ByteArray)) := (hfr.out vs 51).trans (by show vs 4 = _; exact hd.1 rfl)
        have e58 : (fr vs).tmps[58]?.getD undef = .string xa.name := (hfr.out vs 58).trans (by show vs 11 = _; exact hd.2.1 rfl)
        exact step_val (.string (((((⟨#[103, 97, 116, 101, 32]⟩) : ByteArray) ++ x.name) ++ ((⟨#[32]⟩) : ByteArray)) ++ xa.name)) (W' := W) (by simp only [execOp]; go_simp <;> omega) ⟨_, rfl, rfl, Below.refl _ _⟩
       refine ⟨?_, ?_⟩
       ·intro vs W hW hd
        have e59 : (fr vs).tmps[59]?.getD undef = .string (((((⟨#[103, 97, 116, 101, 32]⟩) : ByteArray) ++ x.name) ++ ((⟨#[32]⟩) : ByteArray)) ++ xa.name) := (hfr.out vs 59).trans (by show vs 12 = _; exact hd.1 rfl)
        exact step_val (.string ((((((⟨#[103, 97, 116, 101, 32]⟩) : ByteArray) ++ x.name) ++ ((⟨#[32]⟩) : ByteArray)) ++ xa.name) ++ ((⟨#[32]⟩) : ByteArray))) (W' := W) (by simp only [execOp]; go_simp <;> omega) ⟨_, rfl, rfl, Below.refl _ _⟩
       refine ⟨?_, ?_⟩
       ·intro vs W hW hd
        have e1 : (fr vs).tmps[1]?.getD undef = .pointer (some ⟨w.heap.size, 0, none⟩) := (hfr.out vs 1).trans rfl
        exact sv (.pointer (some ⟨w.heap.size, 2, none⟩))
       refine ⟨?_, ?_⟩
       ·intro vs W hW hd
        have e61 : (fr vs).tmps[61]?.getD undef = .pointer (some ⟨w.heap.size, 2, none⟩) := (hfr.out vs 61).trans (by show vs 14 = _; exact hd.1 rfl)
        have kq2 := later_of hW q2
        exact sv (.slice (some ⟨pb, po, none⟩) m.f.places.length m.pc)
       refine ⟨?_, ?_⟩
       ·intro vs W hW hd
        have e7 : (fr vs).tmps[7]?.getD undef = .pointer (some ⟨wr.heap.size, 0, none⟩) := (hfr.out vs 7).trans rfl
        exact sv (.pointer (some ⟨wr.heap.size, 2, none⟩))
       refine ⟨?_, ?_⟩
       ·intro vs W hW hd
        have e63 : (fr vs).tmps[63]?.getD undef = .pointer (some ⟨wr.heap.size, 2, none⟩) := (hfr.out vs 63).trans (by show vs 16 = _; exact hd.1 rfl)
        have kp2 := later_of hW p2
        exact sv (.int .i64 (kb : Int))
       refine ⟨?_, ?_⟩
       ·intro vs W hW hd
        have e62 : (fr vs).tmps[62]?.getD undef = .slice (some ⟨pb, po, none⟩) m.f.places.length m.pc := (hfr.out vs 62).trans (by show vs 15 = _; exact hd.1 rfl)
        have e64 : (fr vs).tmps[64]?.getD undef = .int .i64 (kb : Int) := (hfr.out vs 64).trans (by show vs 17 = _; exact hd.2.1 rfl)
        exact step_val (.pointer (some ⟨pb, po + kb * 2, none⟩)) (W' := W) (by simp only [execOp]; go_simp; intros; first | (exfalso; omega) | skip) ⟨_, rfl, rfl, Below.refl _ _⟩
       refine ⟨?_, ?_⟩
       ·intro vs W hW hd
        have e65 : (fr vs).tmps[65]?.getD undef = .pointer (some ⟨pb, po + kb * 2, none⟩) := (hfr.out vs 65).trans (by show vs 18 = _; exact hd.1 rfl)
        exact sv (.pointer (some ⟨pb, po + kb * 2, none⟩))
       refine ⟨?_, ?_⟩
       ·intro vs W hW hd
        have e66 : (fr vs).tmps[66]?.getD undef = .pointer (some ⟨pb, po + kb * 2, none⟩) := (hfr.out vs 66).trans (by show vs 19 = _; exact hd.1 rfl)
        have kz := later_of hW (later_of hBa zb0)
        exact sv (.string xb.name)
       refine ⟨?_, ?_⟩
       ·intro vs W hW hd
        have e60 : (fr vs).tmps[60]?.getD undef = .string ((((((⟨#[103, 97, 116, 101, 32]⟩) : ByteArray) ++ x.name) ++ ((⟨#[32]⟩) : ByteArray)) ++ xa.name) ++ ((⟨#[32]⟩) : ByteArray)) := (hfr.out vs 60).trans (by show vs 13 = _; exact hd.1 rfl)
        have e67 : (fr vs).tmps[67]?.getD undef = .string xb.name := (hfr.out vs 67).trans (by show vs 20 = _; exact hd.2.1 rfl)
        exact step_val (.string (((((((⟨#[103, 97, 116, 101, 32]⟩) : ByteArray) ++ x.name) ++ ((⟨#[32]⟩) : ByteArray)) ++ xa.name) ++ ((⟨#[32]⟩) : ByteArray)) ++ xb.name)) (W' := W) (by simp only [execOp]; go_simp <;> omega) ⟨_, rfl, rfl, Below.refl _ _⟩
       refine ⟨?_, ?_⟩
       ·intro vs W hW hd
        have e68 : (fr vs).tmps[68]?.getD undef = .string (((((((⟨#[103, 97, 116, 101, 32]⟩) : ByteArray) ++ x.name) ++ ((⟨#[32]⟩) : ByteArray)) ++ xa.name) ++ ((⟨#[32]⟩) : ByteArray)) ++ xb.name) := (hfr.out vs 68).trans (by show vs 21 = _; exact hd.1 rfl)
        exact step_val (.string ((((((((⟨#[103, 97, 116, 101, 32]⟩) : ByteArray) ++ x.name) ++ ((⟨#[32]⟩) : ByteArray)) ++ xa.name) ++ ((⟨#[32]⟩) : ByteArray)) ++ xb.name) ++ ((⟨#[32]⟩) : ByteArray))) (W' := W) (by simp only [execOp]; go_simp <;> omega) ⟨_, rfl, rfl, Below.refl _ _⟩
       refine ⟨?_, ?_⟩
       ·intro vs W hW hd
        have e7 : (fr vs).tmps[7]?.getD undef = .pointer (some ⟨wr.heap.size, 0, none⟩) := (hfr.out vs 7).trans rfl
        exact sv (.pointer (some ⟨wr.heap.size, 3, none⟩))
       refine ⟨?_, ?_⟩
       ·intro vs W hW hd
        have e70 : (fr vs).tmps[70]?.getD undef = .pointer (some ⟨wr.heap.size, 3, none⟩) := (hfr.out vs 70).trans (by show vs 23 = _; exact hd.1 rfl)
        have kp3 := later_of hW p3
        exact sv (.int .i64 x.most)
       refine ⟨?_, ?_⟩
       ·intro vs W hW hd
        have e71 : (fr vs).tmps[71]?.getD undef = .int .i64 x.most := (hfr.out vs 71).trans (by show vs 24 = _; exact hd.1 rfl)
        exact step_call (R := fun v w' => v = .string (itoaS x.most) ∧ Below W.heap.size W w') (f := 95) (args := #[.int .i64 x.most]) (W' := W) (by simp only [execOp]; go_simp) ((HI.out _ (by unfold Int64; omega) W (bthen hb0 hW)).mono fun e w' ⟨h1, h2⟩ => ⟨_, h1, rfl, h2⟩) fun v w' h => ⟨v, rfl, h⟩
       refine ⟨?_, ?_⟩
       ·intro vs W hW hd
        have e69 : (fr vs).tmps[69]?.getD undef = .string ((((((((⟨#[103, 97, 116, 101, 32]⟩) : ByteArray) ++ x.name) ++ ((⟨#[32]⟩) : ByteArray)) ++ xa.name) ++ ((⟨#[32]⟩) : ByteArray)) ++ xb.name) ++ ((⟨#[32]⟩) : ByteArray)) := (hfr.out vs 69).trans (by show vs 22 = _; exact hd.1 rfl)
        have e72 : (fr vs).tmps[72]?.getD undef = .string (itoaS x.most) := (hfr.out vs 72).trans (by show vs 25 = _; exact hd.2.1 rfl)
        exact step_val (.string (((((((((⟨#[103, 97, 116, 101, 32]⟩) : ByteArray) ++ x.name) ++ ((⟨#[32]⟩) : ByteArray)) ++ xa.name) ++ ((⟨#[32]⟩) : ByteArray)) ++ xb.name) ++ ((⟨#[32]⟩) : ByteArray)) ++ (itoaS x.most))) (W' := W) (by simp only [execOp]; go_simp <;> omega) ⟨_, rfl, rfl, Below.refl _ _⟩
       refine ⟨?_, ?_⟩
       ·intro vs W hW hd
        have e73 : (fr vs).tmps[73]?.getD undef = .string (((((((((⟨#[103, 97, 116, 101, 32]⟩) : ByteArray) ++ x.name) ++ ((⟨#[32]⟩) : ByteArray)) ++ xa.name) ++ ((⟨#[32]⟩) : ByteArray)) ++ xb.name) ++ ((⟨#[32]⟩) : ByteArray)) ++ (itoaS x.most)) := (hfr.out vs 73).trans (by show vs 26 = _; exact hd.1 rfl)
        refine step_val (.slice (some ⟨W.heap.size, 0, none⟩) 1 1) (W' := W.alloc (.cells (strC (((((((((⟨#[103, 97, 116, 101, 32]⟩) : ByteArray) ++ x.name) ++ ((⟨#[32]⟩) : ByteArray)) ++ xa.name) ++ ((⟨#[32]⟩) : ByteArray)) ++ xb.name) ++ ((⟨#[32]⟩) : ByteArray)) ++ (itoaS x.most))).toArray 9)) (by simp only [execOp]; go_simp; rfl) ⟨_, rfl, ⟨_, rfl, ?_⟩, by go_grown⟩
        intro j u hj
        rw [Nat.zero_add]
        exact new_cell W (strC (((((((((⟨#[103, 97, 116, 101, 32]⟩) : ByteArray) ++ x.name) ++ ((⟨#[32]⟩) : ByteArray)) ++ xa.name) ++ ((⟨#[32]⟩) : ByteArray)) ++ xb.name) ++ ((⟨#[32]⟩) : ByteArray)) ++ (itoaS x.most))) _ hj
       trivial
      case htail =>
       intro vs V hW hv
       obtain ⟨bn, v27, hcn⟩ := hv.2.2.2.2.2.2.2.2.2.2.2.2.2.2.2.2.2.2.2.2.2.2.2.2.2.2.2.1
       have v0 : vs 0 = u3 := hv.1
       clear hv
       simp only [List.take_succ_cons, List.take_zero, List.drop_succ_cons, List.drop_zero, frameV, Act.put, List.setIfInBounds_toArray, List.set_cons_zero, List.set_cons_succ, v0, v27]
       have HOV := Lib.hid (own_below (own_below HO.out hBa) hW)
       have HQV := Lib.hid ((HQ.out.later hBa).later hW)
       have hbV := bthen hbA hW
       have zV := hbV.size
       have zV1 := hBa.size
       have zV2 := hW.size
       have hnum : ([headP m.f] ++ m.f.places.map placeS ++ (m.f.gates.take k).map (gateS m.f)).length ≤ 100 := by simp; omega
       refine wpList_append_own_at _ (by rfl) _ _ 93 (by rfl) (w.heap.size + 1) 9 i0 _ 1 16 Tryz.underlying93 hi0 hz0 hz1 hz2 (by rfl) (by decide) _ _ _ (by rfl) HOV.out ⟨bn, 0, none⟩ 1 1 (strC (wGateS ++ x.name ++ sp ++ xa.name ++ sp ++ xb.name ++ sp ++ itoaS x.most)) (by rfl) (by rfl) (one_add hcn) (by simp [strC, Value.oneCell']) (by unfold maxLen; omega) (by omega) (by omega) ?_
       intro v' w1 hown' hgrow _ hat
       have hown2 : OwnS w1 (w.heap.size + 1) v' ([headP m.f] ++ m.f.places.map placeS ++ (m.f.gates.take (k + 1)).map (gateS m.f)) := by
        rw [HN.out]
        unfold OwnS
        rw [List.length_append, cellsL_snoc]
        exact hown'
       have hkg := kept_of_grown hgrow
       have hbb : Below w.heap.size w w1 := hbV.trans (hkg.below hbV.size (fun j hj => by have := (HOV.out.lt j hj).1; omega))
       have hcq : CellsAt w1 w.heap.size 0 (feC m) := HQV.out.kept hkg (fun e => by have := (HOV.out.lt _ e).1; omega)
       have HB := Lib.hid hbb
       have HW2 := Lib.hid hown2
       have HCQ := Lib.hid hcq
       clear hown' hgrow hat hown2 hbb hkg hcq hbV hW hcn hBa hbA
       go_wp2
       go_roundw
       case rel => exact ⟨_, _, _, ⟨k + 1, by omega, by go_num, by simpa [List.map_take] using HW2.out, HCQ.out, HB.out⟩, rfl, rfl, rfl⟩
       case measure => simp [intOf]; omega
     ·obtain rfl : k = m.f.gates.length := by omega
      have hown := HO.out
      rw [List.take_length] at hown
      have e2 : [headP m.f] ++ m.f.places.map placeS ++ m.f.gates.map (gateS m.f) = printL m.f := by rw [printL_eq]
      rw [e2] at hown
      have HS := Lib.hid (lines_small HF.out)
      obtain ⟨b, c, rfl, hcap, _, hst, _⟩ := Lst.own strC_len hown
      have HST := Lib.hid (hst (by have := HS.out.1; omega))
      have HJ := Lib.hid HS.out.2
      have HV := Lib.hid (show printV m.f = ⟨(Lib.join ((printL m.f).map (·.data.toList)) [10]).toArray⟩ ++ nl from if_neg (fun h => h HF.out))
      obtain ⟨J, hJ⟩ : ∃ J, (⟨(Lib.join ((printL m.f).map (·.data.toList)) nl.data.toList).toArray⟩ : ByteArray) = J := ⟨_, rfl⟩
      have hjs : J.size ≤ 100000 := by
       rw [← hJ]
       have := HS.out.2
       simp only [ByteArray.size, List.size_toArray]
       exact this
      have hjc := c_Join nl (printL m.f) b c wr HST.out hcap (Nat.le_trans HJ.out (by decide))
      rw [hJ] at hjc
      have HV2 := Lib.hid (show printV m.f = J ++ nl from by rw [HV.out, ← hJ]; rfl)
      have HJC := Lib.hid hjc
      clear hown hst e2 hJ hjc
      go_wp2_with fail
      refine HJC.out.mono ?_
      rintro e W9 ⟨rfl, hB⟩
      have hbn := bthen hb hB
      clear hb hB
      go_wp2_with fail
      go_ret
      exact ⟨by rw [HV2.out]; rfl, hbn⟩
theorem c_PrintFell (m : Fm) (w : World) (hm : m.In w) (hl : LibW w) : Calls Tryz.prog 23 #[m.v] w fun e w' => e = .returned (.string (printV m.f)) ∧ Below w.heap.size w w' := by
 by_cases h : checkE m.f = 0
 ·exact c_Print_ok m w hm hl h
 ·exact c_Print_no m w hm h
end Go.Proofs.YtlppdgaogdpajaaGreatDoor
