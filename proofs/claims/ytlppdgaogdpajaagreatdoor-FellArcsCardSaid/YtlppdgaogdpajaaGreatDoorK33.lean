/- This text is a part of the proof: Short, Laid, Facts. -/
import Derived.Test.YtlppdgaogdpajaaGreatDoorK32
import Derived.Deep.DeepLaidRun
import Derived.Deep.DeepWitnessRowRef
import Derived.Stop.LaidErr
import Derived.Test.YtlppdgaogdpajaaGreatDoorCards
set_option maxRecDepth 100000
set_option maxHeartbeats 4000000
namespace Go.Proofs.YtlppdgaogdpajaaGreatDoor
open Go.RowKit Go.Shelf
attribute [local go_sem] Oper.semAt_some
def shortB (f : Fe) : Bool := (f.places.all fun p => decide (p.name.size ≤ 100)) && f.gates.all fun g => decide (g.name.size ≤ 100)
def shortV (f : Fe) : Bool := decide (f.places.length ≤ 12) && decide (f.gates.length ≤ 16) && shortB f
def fewB (l : List Rp) : Bool := l.all fun x => decide (x.sort.size ≤ 100)
def fewV (l : List Rp) (most : Nat) : Bool := decide (l.length ≤ most) && fewB l
theorem short_in {m : Fm} {w : World} (h : m.Arg w) (hs : shortV m.f = true) : m.In w := by
 unfold shortV at hs
 simp only [Bool.and_eq_true, decide_eq_true_eq] at hs
 exact ⟨h.pl.lst (by omega), h.gt.lst (by omega)⟩
theorem all_no {α : Type} {l : List α} {p : α → Bool} {x : α} (hx : x ∈ l) (hp : p x = false) : l.all p = false := by
 rw [List.all_eq_false]
 exact ⟨x, hx, by rw [hp]; decide⟩
theorem all_take {α : Type} {l : List α} {p : α → Bool} {k : Nat} {x : α} (hx : l[k]? = some x) (h : (l.take k).all p = true) (hp : p x = true) : (l.take (k + 1)).all p = true := by
 rw [take_some hx, List.all_append, h]
 simp [hp]
theorem c_Short_p (m : Fm) (w : World) (h : 12 < m.f.places.length) : Calls Tryz.prog 19 #[m.v] w fun e w' => e = .returned (.bool false) ∧ Below w.heap.size w w' := by
 have h1 : (12 : Int) < (m.f.places.length : Int) := by omega
 go_enter Tryz.func19, Tryz.ntmps19
 go_upto_region 1 with (fail)
 go_name_world W1 hW1
 have hb0 : Below w.heap.size w W1 := by subst hW1; go_grown
 have hq : CellsAt W1 w.heap.size 0 (feC m) := cells_4 (by subst hW1; go_simp) (by subst hW1; go_simp) (by subst hW1; go_simp) (by subst hW1; go_simp)
 clear hW1
 have HQ := Lib.hid hq
 obtain ⟨q0, q1, q2, q3⟩ := fe_cells hq
 clear hq
 go_wp2
 go_ret
 exact ⟨rfl, hb0⟩
theorem c_Short_g (m : Fm) (w : World) (hp : m.f.places.length ≤ 12) (h : 16 < m.f.gates.length) : Calls Tryz.prog 19 #[m.v] w fun e w' => e = .returned (.bool false) ∧ Below w.heap.size w w' := by
 have h1 : ¬ (12 : Int) < (m.f.places.length : Int) := by omega
 have h2 : (16 : Int) < (m.f.gates.length : Int) := by omega
 go_enter Tryz.func19, Tryz.ntmps19
 go_upto_region 1 with (fail)
 go_name_world W1 hW1
 have hb0 : Below w.heap.size w W1 := by subst hW1; go_grown
 have hq : CellsAt W1 w.heap.size 0 (feC m) := cells_4 (by subst hW1; go_simp) (by subst hW1; go_simp) (by subst hW1; go_simp) (by subst hW1; go_simp)
 clear hW1
 have HQ := Lib.hid hq
 obtain ⟨q0, q1, q2, q3⟩ := fe_cells hq
 clear hq
 go_wp2
 go_ret
 exact ⟨rfl, hb0⟩
theorem c_Short_ok (m : Fm) (w : World) (hm : m.In w) (hp : m.f.places.length ≤ 12) (hg : m.f.gates.length ≤ 16) : Calls Tryz.prog 19 #[m.v] w fun e w' => e = .returned (.bool (shortB m.f)) ∧ Below w.heap.size w w' := by
 have HM := Lib.hid hm
 have h1 : ¬ (12 : Int) < (m.f.places.length : Int) := by omega
 have h2 : ¬ (16 : Int) < (m.f.gates.length : Int) := by omega
 clear hm
 go_enter Tryz.func19, Tryz.ntmps19
 go_upto_region 1 with (fail)
 go_name_world W1 hW1
 have hb0 : Below w.heap.size w W1 := by subst hW1; go_grown
 have hq : CellsAt W1 w.heap.size 0 (feC m) := cells_4 (by subst hW1; go_simp) (by subst hW1; go_simp) (by subst hW1; go_simp) (by subst hW1; go_simp)
 clear hW1
 have HQ := Lib.hid hq
 obtain ⟨q0, q1, q2, q3⟩ := fe_cells hq
 clear hq
 go_wp2
 go_loopw [3] (fun v3 wr => ∃ k : Nat, k ≤ m.f.places.length ∧ v3 = .int .i64 k ∧ ((m.f.places.take k).all fun p => decide (p.name.size ≤ 100)) = true ∧ CellsAt wr w.heap.size 0 (feC m) ∧ Below w.heap.size w wr) (fun v3 _ => m.f.places.length - (intOf v3).toNat)
 case atStart => exact ⟨0, by omega, rfl, rfl, HQ.out, hb0⟩
 case round =>
  clear q0 q1 q2 q3 HQ hb0
  obtain ⟨k, hk, rfl, hall, hq, hb⟩ := hrel
  have HQ := Lib.hid hq
  have HA := Lib.hid hall
  obtain ⟨q0, q1, q2, q3⟩ := fe_cells hq
  clear hq hall
  by_cases hlt : k < m.f.places.length
  ·obtain ⟨x, hx⟩ := some_at hlt
   obtain ⟨b, o, hpa, hat⟩ := (HM.out.later hb).pl.at hx
   have y0 := (pl_cells hat).1
   rw [hpa] at q2
   have hi1 : ¬ (k : Int) < 0 := by omega
   have hi2 : (k : Int) < (m.f.places.length : Int) := by omega
   have HX := Lib.hid hx
   clear hat hx
   by_cases hs : x.name.size ≤ 100
   ·have hs1 : ¬ (100 : Int) < (x.name.size : Int) := by omega
    have HB := Lib.hid hb
    go_wp2
    go_roundw
    case rel => exact ⟨k + 1, by omega, by go_num, all_take HX.out HA.out (by simp [hs]), HQ.out, HB.out⟩
    case measure => simp [intOf]; omega
   ·have hs1 : (100 : Int) < (x.name.size : Int) := by omega
    have hz : shortB m.f = false := by
     unfold shortB
     have := all_no (some_mem HX.out) (p := fun p => decide (p.name.size ≤ 100)) (by simp [hs])
     rw [this]
     simp
    go_wp2
    go_ret
    exact ⟨by first | rfl | rw [hz], hb⟩
  ·obtain rfl : k = m.f.places.length := by omega
   have hfull := HA.out
   rw [List.take_length] at hfull
   have HF3 := Lib.hid hfull
   have hi2 : ¬ (m.f.places.length : Int) < (m.f.places.length : Int) := by omega
   have hb0 := hb
   clear hb hfull HA hk hlt
   go_wp2
   go_loopw [4] (fun v4 wr => ∃ k : Nat, k ≤ m.f.gates.length ∧ v4 = .int .i64 k ∧ ((m.f.gates.take k).all fun p => decide (p.name.size ≤ 100)) = true ∧ CellsAt wr w.heap.size 0 (feC m) ∧ Below w.heap.size w wr) (fun v4 _ => m.f.gates.length - (intOf v4).toNat)
   case atStart => exact ⟨0, by omega, rfl, rfl, HQ.out, hb0⟩
   case round =>
    clear q0 q1 q2 q3 HQ hb0
    obtain ⟨k, hk, rfl, hall, hq, hb⟩ := hrel
    have HQ := Lib.hid hq
    have HA := Lib.hid hall
    obtain ⟨q0, q1, q2, q3⟩ := fe_cells hq
    clear hq hall
    by_cases hlt : k < m.f.gates.length
    ·obtain ⟨x, hx⟩ := some_at hlt
     obtain ⟨b, o, hpa, hat⟩ := (HM.out.later hb).gt.at hx
     have y0 := (gt_cells hat).1
     rw [hpa] at q3
     have hi1 : ¬ (k : Int) < 0 := by omega
     have hi2 : (k : Int) < (m.f.gates.length : Int) := by omega
     have HX := Lib.hid hx
     clear hat hx
     by_cases hs : x.name.size ≤ 100
     ·have hs1 : ¬ (100 : Int) < (x.name.size : Int) := by omega
      have HB := Lib.hid hb
      go_wp2
      go_roundw
      case rel => exact ⟨k + 1, by omega, by go_num, all_take HX.out HA.out (by simp [hs]), HQ.out, HB.out⟩
      case measure => simp [intOf]; omega
     ·have hs1 : (100 : Int) < (x.name.size : Int) := by omega
      have hz : shortB m.f = false := by
       unfold shortB
       have := all_no (some_mem HX.out) (p := fun p => decide (p.name.size ≤ 100)) (by simp [hs])
       rw [this]
       simp
      go_wp2
      go_ret
      exact ⟨by first | rfl | rw [hz], hb⟩
    ·obtain rfl : k = m.f.gates.length := by omega
     have hfull := HA.out
     rw [List.take_length] at hfull
     have HF4 := Lib.hid hfull
     have hi2 : ¬ (m.f.gates.length : Int) < (m.f.gates.length : Int) := by omega
     have hb0 := hb
     clear hb hfull HA hk hlt
     have hz : shortB m.f = true := by
      unfold shortB
      rw [HF3.out, HF4.out]
      rfl
     go_wp2
     go_ret
     exact ⟨by first | rfl | rw [hz], hb0⟩
theorem c_Short (m : Fm) (w : World) (hm : m.Arg w) : Calls Tryz.prog 19 #[m.v] w fun e w' => e = .returned (.bool (shortV m.f)) ∧ Below w.heap.size w w' := by
 unfold shortV
 by_cases h1 : m.f.places.length ≤ 12
 ·by_cases h2 : m.f.gates.length ≤ 16
  ·have := c_Short_ok m w ⟨hm.pl.lst (by omega), hm.gt.lst (by omega)⟩ h1 h2
   simpa [h1, h2] using this
  ·have := c_Short_g m w h1 (by omega)
   simpa [h1, h2] using this
 ·have := c_Short_p m w (by omega)
  simpa [h1] using this
theorem c_Few_long (l : List Rp) (a : Option Addr) (cap most : Nat) (w : World) (h : most < l.length) : Calls Tryz.prog 28 #[.slice a l.length cap, .int .i64 most] w fun e w' => e = .returned (.bool false) ∧ Below w.heap.size w w' := by
 have h1 : (most : Int) < (l.length : Int) := by omega
 go_enter Tryz.func28, Tryz.ntmps28
 go_wp2
 go_ret
 exact ⟨rfl, by go_grown⟩
theorem c_Few_ok (l : List Rp) (a : Option Addr) (cap most : Nat) (w : World) (hl : Rps w a l) (h : l.length ≤ most) : Calls Tryz.prog 28 #[.slice a l.length cap, .int .i64 most] w fun e w' => e = .returned (.bool (fewB l)) ∧ Below w.heap.size w w' := by
 have h1 : ¬ (most : Int) < (l.length : Int) := by omega
 have hN := hl.1
 have HL := Lib.hid hl
 clear hl
 go_enter Tryz.func28, Tryz.ntmps28
 go_wp2
 go_loopw [5] (fun v5 wr => ∃ k : Nat, k ≤ l.length ∧ v5 = .int .i64 k ∧ fewB (l.take k) = true ∧ Below w.heap.size w wr) (fun v5 _ => l.length - (intOf v5).toNat)
 case atStart => exact ⟨0, by omega, rfl, rfl, by go_grown⟩
 case round =>
  obtain ⟨k, hk, rfl, hall, hb⟩ := hrel
  have HA := Lib.hid hall
  clear hall
  by_cases hlt : k < l.length
  ·obtain ⟨x, hx⟩ := some_at hlt
   obtain ⟨b, o, rfl, hat⟩ := (HL.out.later hb).at hx
   have y4 := (rp_cells hat).2.2.2.2.1
   have hi1 : ¬ (k : Int) < 0 := by omega
   have hi2 : (k : Int) < (l.length : Int) := by omega
   have HX := Lib.hid hx
   clear hat hx
   by_cases hs : x.sort.size ≤ 100
   ·have hs1 : ¬ (100 : Int) < (x.sort.size : Int) := by omega
    have HB := Lib.hid hb
    go_wp2
    go_roundw
    case rel => exact ⟨k + 1, by omega, by go_num, all_take HX.out HA.out (by simp [hs]), HB.out⟩
    case measure => simp [intOf]; omega
   ·have hs1 : (100 : Int) < (x.sort.size : Int) := by omega
    have hz : fewB l = false := all_no (some_mem HX.out) (by simp [hs])
    go_wp2
    go_ret
    exact ⟨by first | rfl | rw [hz], hb⟩
  ·obtain rfl : k = l.length := by omega
   have hfull := HA.out
   rw [List.take_length] at hfull
   have hi2 : ¬ (l.length : Int) < (l.length : Int) := by omega
   clear HA hk hlt
   go_wp2
   go_ret
   exact ⟨by first | rfl | rw [hfull], hb⟩
theorem c_Few (l : List Rp) (a : Option Addr) (cap most : Nat) (w : World) (hl : SlArg rpC 10 RpW w l a cap) (hm : most ≤ 1000) : Calls Tryz.prog 28 #[.slice a l.length cap, .int .i64 most] w fun e w' => e = .returned (.bool (fewV l most)) ∧ Below w.heap.size w w' := by
 unfold fewV
 by_cases h : l.length ≤ most
 ·have := c_Few_ok l a cap most w (hl.lst (by omega)) h
  simpa [h] using this
 ·have := c_Few_long l a cap most w (by omega)
  simpa [h] using this
end Go.Proofs.YtlppdgaogdpajaaGreatDoor
namespace Go.Proofs.YtlppdgaogdpajaaGreatDoor
open Go.RowKit
theorem gty_rng : (Tryz.prog.globals[3]?).map (·.type) = some 190 := by kernel_rfl
theorem gty_syn : (Tryz.prog.globals[2]?).map (·.type) = some 190 := by kernel_rfl
theorem cells_es : Tryz.prog.cellsOf 285 = 1 := by kernel_rfl
theorem cells_str : Tryz.prog.cellsOf 9 = 1 := by kernel_rfl
theorem star_es : "*" ++ "errors.errorString" = "*errors.errorString" := by decide
theorem row_es (u : TypeId) (h : Tryz.prog.typeName? 3 u = some "*errors.errorString") : u = 283 :=
 typeName_ptr_named (nm := "errors.errorString") (by rw [star_es]; kernel_rfl) (by kernel_rfl) (by decide) u (by rw [star_es]; exact h)
theorem gty_tab : (Tryz.prog.globals[1]?).map (·.type) = some 264 := by kernel_rfl
theorem cells_u64 : Tryz.prog.cellsOf 236 = 1 := by kernel_rfl
theorem cells_tab : Tryz.prog.cellsOf 264 = 20 := by kernel_rfl
theorem libW_of {W : World} (h : laidMet Tryz.prog Rows.fellPresentRow.laid W) (hs : W.ShapedOpen Tryz.prog) : LibW W where
 tab := Lib.tabIs_of_head g_tab gty_tab Tryz.underlying264 Tryz.underlying236 cells_u64 cells_tab h.tail.tail
 len := Tryz.laysM146.s1_3 W hs
 syn := by
  obtain ⟨a, s, hv, _⟩ := laid_sentinel h.tail.tail.tail.tail.tail g_syn gty_syn Tryz.underlying190 row_es Tryz.underlying283 Tryz.underlying285 rfl rfl Tryz.underlying9 cells_es cells_str
  exact ⟨_, _, hv⟩
 rng := by
  obtain ⟨a, s, hv, _⟩ := laid_sentinel h.tail.tail.tail.tail g_rng gty_rng Tryz.underlying190 row_es Tryz.underlying283 Tryz.underlying285 rfl rfl Tryz.underlying9 cells_es cells_str
  exact ⟨_, _, hv⟩
def flat1 : DataW Unit → List Value
 | .lit (.int k n) => [.int k n]
 | _ => []
def flat2 : DataW Unit → List Value
 | .agg l => l.flatMap flat1
 | d => flat1 d
def flat3 : DataW Unit → List Value
 | .agg l => l.flatMap flat2
 | d => flat1 d
def setG (g : Nat) (cs : List Value) (h : Array Obj) : Array Obj := h.modify g fun
 | .cells _ t frozen => .cells cs.toArray t frozen
 | o => o
abbrev sent0 : ByteArray := { data := #[118, 97, 108, 117, 101, 32, 111, 117, 116, 32, 111, 102, 32, 114, 97, 110, 103, 101] }
abbrev sent1 : ByteArray := { data := #[105, 110, 118, 97, 108, 105, 100, 32, 115, 121, 110, 116, 97, 120] }
noncomputable def low : Nat := (World.holding Tryz.prog default ⟨#[], #[], []⟩).heap.size
noncomputable def laidWorld (os : Os) : World :=
 let w0 := World.holding Tryz.prog os ⟨#[.cells #[.string sent0] 285, .cells #[.string sent1] 285], #[], []⟩
 { w0 with heap := (setG 4 (flat3 Rows.laid_unicode_utf8_first) (setG 2 [.iface 283 (.pointer (some ⟨low + 1, 0, none⟩))] (setG 3 [.iface 283 (.pointer (some ⟨low + 0, 0, none⟩))] (setG 5 (flat3 Rows.laid_unicode_utf8_acceptRanges) (setG 1 (flat3 Rows.laid_internal_strconv_uint64pow10) (setG 7 (flat3 Rows.laid_math_bits_deBruijn64tab) (setG 6 (flat3 Rows.laid_math_bits_deBruijn32tab) w0.heap))))))) }
theorem laidWorld_met (os : Os) (args : Array Value) : laidMet Tryz.prog Rows.fellPresentRow.laid ((laidWorld os).forCall (fun _ _ => 0) ⟨#[], args, []⟩).memory :=
 laidMet_of_run3 8 (by kernel_rfl) (by kernel_rfl) (by kernel_rfl)
end Go.Proofs.YtlppdgaogdpajaaGreatDoor
namespace Go.Proofs.YtlppdgaogdpajaaGreatDoor
open Go.ChangeShapes Go.WideShapes Go.ChangeAt Go.RowKit Go.Joins Go.Deep
theorem tt {a b : Bool} (h : a = true) (k : b = true) : (a && b) = true := by rw [h, k]; rfl
theorem p1 : (laidOutB Tryz.pinned.checked.prog) = true := by kernel_rfl
theorem p2 : (mapsRowed Tryz.pinned.checked.prog) = true := by kernel_rfl
theorem p6 : ((Tryz.pinned.checked.prog.stops == [])) = true := by kernel_rfl
theorem p8 : ((Tryz.pinned.checked.prog.stopKnobs == [])) = true := by kernel_rfl
theorem p24 : (Tryz.pinned.checked.prog.stopsHeard) = true := by kernel_rfl
theorem p25 : (Tryz.pinned.checked.prog.mayEnter) = true := by kernel_rfl
theorem p22 : ((Rows.fellPresentRow.plainKeys == Tryz.pinned.checked.prog.plainKeys)) = true := by kernel_rfl
theorem p26 : ((Rows.fellPresentRow.lifted == Tryz.pinned.checked.prog.liftsFinal)) = true := by kernel_rfl
theorem p27 : ((Tryz.pinned.checked.prog.make == some Rows.fellPresentRow.make)) = true := by kernel_rfl
theorem p_looks : true = Tryz.pinned.checked.prog.looks [] := by kernel_rfl
end Go.Proofs.YtlppdgaogdpajaaGreatDoor
