/- This text is a part of the proof: Check. -/
import Derived.Test.YtlppdgaogdpajaaGreatDoorK4
set_option maxRecDepth 100000
set_option maxHeartbeats 4000000
namespace Go.Proofs.YtlppdgaogdpajaaGreatDoor
open Go.RowKit Go.Shelf
attribute [local go_sem] Oper.semAt_some
theorem c_bad (s : ByteArray) (w : World) : Calls Tryz.prog 97 #[.string s] w fun e w' => e = .returned (.bool (!nameB s)) ∧ Below w.heap.size w w' := by
 go_enter Tryz.func97, Tryz.ntmps97
 go_wp2_with fail
 refine (c_isName s _).mono ?_
 rintro e w' ⟨rfl, hB⟩
 go_wp2
 go_ret
 exact ⟨rfl, hB⟩
theorem c_isPlace (n : Int) (fb P pc : Nat) (pa : Option Addr) (w : World) (hP : P ≤ 1000000) (h : w.cell? ⟨fb, 2, none⟩ = some (.slice pa P pc)) :
  Calls Tryz.prog 99 #[.int .i64 n, .pointer (some ⟨fb, 0, none⟩)] w fun e w' => e = .returned (.bool (rg 0 ((P : Int) - 1) n)) ∧ w = w' := by
 go_enter Tryz.func99, Tryz.ntmps99
 go_wp2_with fail
 refine (c_in _ _ _ _).mono ?_
 rintro e w' ⟨rfl, rfl⟩
 go_wp2
 go_ret
 exact ⟨rfl, rfl⟩
def kindBad (p : Pl) : Bool := p.kind != 1 && p.kind != 2
theorem c_kindBad (x : Pl) (w : World) : Calls Tryz.prog 106 #[x.v] w fun e w' => e = .returned (.bool (kindBad x)) ∧ Below w.heap.size w w' := by
 obtain ⟨nm, k⟩ := x
 unfold kindBad
 by_cases h1 : (k != 1) = true
 ·by_cases h2 : (k != 2) = true
  ·simp only [h1, h2]
   go_enter Tryz.func106, Tryz.ntmps106
   go_wp2
   go_ret
   exact ⟨rfl, by go_grown⟩
  ·rw [Bool.not_eq_true] at h2
   simp only [h1, h2]
   go_enter Tryz.func106, Tryz.ntmps106
   go_wp2
   go_ret
   exact ⟨rfl, by go_grown⟩
 ·rw [Bool.not_eq_true] at h1
  simp only [h1]
  go_enter Tryz.func106, Tryz.ntmps106
  go_wp2
  go_ret
  exact ⟨rfl, by go_grown⟩
theorem c_mostBad (x : Gt) (w : World) : Calls Tryz.prog 108 #[x.v] w fun e w' => e = .returned (.bool (!rg 0 1000 x.most)) ∧ Below w.heap.size w w' := by
 obtain ⟨nm, a, b, most⟩ := x
 go_enter Tryz.func108, Tryz.ntmps108
 go_wp2_with fail
 refine (via (w0 := w) (by go_grown) ((c_in _ _ _ _).mono fun e w' h => (⟨h.1, h.2 ▸ Below.refl _ _⟩ : _ ∧ _))).mono ?_
 rintro e w' ⟨rfl, hc, hf, hz, hB⟩
 clear hc hf
 go_wp2
 go_ret
 exact ⟨rfl, hB⟩
def endsBad (P : Nat) (g : Gt) : Bool := !rg 0 ((P : Int) - 1) g.a || !rg 0 ((P : Int) - 1) g.b || g.a == g.b
theorem c_endsBad (x : Gt) (fb pb P pc : Nat) (pa : Option Addr) (w : World) (hP : P ≤ 1000000) (h : w.cell? ⟨fb, 2, none⟩ = some (.slice pa P pc))
  (hp : w.cell? ⟨pb, 0, none⟩ = some (.func (.func 99) #[] #[.pointer (some ⟨fb, 0, none⟩)])) :
  Calls Tryz.prog 109 #[x.v, .pointer (some ⟨pb, 0, none⟩)] w fun e w' => e = .returned (.bool (endsBad P x)) ∧ Below w.heap.size w w' := by
 obtain ⟨nm, a, b, most⟩ := x
 unfold endsBad
 have eg : Ent 99 := enters_of Tryz.func99 (by kernel_rfl) rfl
 have hC := fun (n : Int) (W : World) (hb : Below w.heap.size w W) => c_isPlace n fb P pc pa W hP (((bcell hb).1 _ _ (cell_lt h)).trans h)
 dsimp only
 generalize rg 0 ((P : Int) - 1) = r at hC ⊢
 have HC := Lib.hid hC
 clear hC h
 have HP := Lib.hid hp
 clear hp
 cases h1 : r a
 ·have H1 := Lib.hid h1
  clear h1
  go_enter Tryz.func109, Tryz.ntmps109
  go_upto_region 1 with (fail)
  go_name_world W1 hW1
  have hb0 : Below w.heap.size w W1 := by subst hW1; go_grown
  have q0 : W1.cell? ⟨w.heap.size, 0, none⟩ = some (.string nm) := by subst hW1; go_simp
  have q1 : W1.cell? ⟨w.heap.size, 1, none⟩ = some (.int .i64 a) := by subst hW1; go_simp
  have q2 : W1.cell? ⟨w.heap.size, 2, none⟩ = some (.int .i64 b) := by subst hW1; go_simp
  have q3 : W1.cell? ⟨w.heap.size, 3, none⟩ = some (.int .i64 most) := by subst hW1; go_simp
  clear hW1 
  have hp : W1.cell? ⟨pb, 0, none⟩ = some (.func (.func 99) #[] #[.pointer (some ⟨fb, 0, none⟩)]) := ((bcell hb0).1 _ _ (cell_lt HP.out)).trans HP.out
  go_wp2_with fail
  refine (via (w0 := W1) (by go_grown) ((HC.out a _ hb0).mono fun e w' h => (⟨h.1, h.2 ▸ Below.refl _ _⟩ : _ ∧ _))).mono ?_
  rw [H1.out]
  rintro e W2 ⟨rfl, hc, hf, hz, hB⟩
  have zz := cy5 hc q0 q1 q2 q3 hp
  clear q0 q1 q2 q3 hp
  obtain ⟨q0, q1, q2, q3, hp⟩ := zz
  replace hb0 : Below w.heap.size w W2 := bthen hb0 hB
  have hzW2 : W1.heap.size ≤ W2.heap.size := hz
  clear hc hf hB hz
  go_wp2_with fail
  go_ret
  exact ⟨rfl, by have hbz := hb0.size; go_grown⟩
 ·have H1 := Lib.hid h1
  clear h1
  cases h2 : r b
  ·have H2 := Lib.hid h2
   clear h2
   go_enter Tryz.func109, Tryz.ntmps109
   go_upto_region 1 with (fail)
   go_name_world W1 hW1
   have hb0 : Below w.heap.size w W1 := by subst hW1; go_grown
   have q0 : W1.cell? ⟨w.heap.size, 0, none⟩ = some (.string nm) := by subst hW1; go_simp
   have q1 : W1.cell? ⟨w.heap.size, 1, none⟩ = some (.int .i64 a) := by subst hW1; go_simp
   have q2 : W1.cell? ⟨w.heap.size, 2, none⟩ = some (.int .i64 b) := by subst hW1; go_simp
   have q3 : W1.cell? ⟨w.heap.size, 3, none⟩ = some (.int .i64 most) := by subst hW1; go_simp
   clear hW1 
   have hp : W1.cell? ⟨pb, 0, none⟩ = some (.func (.func 99) #[] #[.pointer (some ⟨fb, 0, none⟩)]) := ((bcell hb0).1 _ _ (cell_lt HP.out)).trans HP.out
   go_wp2_with fail
   refine (via (w0 := W1) (by go_grown) ((HC.out a _ hb0).mono fun e w' h => (⟨h.1, h.2 ▸ Below.refl _ _⟩ : _ ∧ _))).mono ?_
   rw [H1.out]
   rintro e W2 ⟨rfl, hc, hf, hz, hB⟩
   have zz := cy5 hc q0 q1 q2 q3 hp
   clear q0 q1 q2 q3 hp
   obtain ⟨q0, q1, q2, q3, hp⟩ := zz
   replace hb0 : Below w.heap.size w W2 := bthen hb0 hB
   have hzW2 : W1.heap.size ≤ W2.heap.size := hz
   clear hc hf hB hz
   go_wp2_with fail
   refine (via (w0 := W2) (by go_grown) ((HC.out b _ hb0).mono fun e w' h => (⟨h.1, h.2 ▸ Below.refl _ _⟩ : _ ∧ _))).mono ?_
   rw [H2.out]
   rintro e W3 ⟨rfl, hc, hf, hz, hB⟩
   have zz := cy5 hc q0 q1 q2 q3 hp
   clear q0 q1 q2 q3 hp
   obtain ⟨q0, q1, q2, q3, hp⟩ := zz
   replace hb0 : Below w.heap.size w W3 := bthen hb0 hB
   have hzW3 : W2.heap.size ≤ W3.heap.size := hz
   clear hc hf hB hz
   go_wp2_with fail
   go_ret
   exact ⟨rfl, by have hbz := hb0.size; go_grown⟩
  ·have H2 := Lib.hid h2
   clear h2
   go_enter Tryz.func109, Tryz.ntmps109
   go_upto_region 1 with (fail)
   go_name_world W1 hW1
   have hb0 : Below w.heap.size w W1 := by subst hW1; go_grown
   have q0 : W1.cell? ⟨w.heap.size, 0, none⟩ = some (.string nm) := by subst hW1; go_simp
   have q1 : W1.cell? ⟨w.heap.size, 1, none⟩ = some (.int .i64 a) := by subst hW1; go_simp
   have q2 : W1.cell? ⟨w.heap.size, 2, none⟩ = some (.int .i64 b) := by subst hW1; go_simp
   have q3 : W1.cell? ⟨w.heap.size, 3, none⟩ = some (.int .i64 most) := by subst hW1; go_simp
   clear hW1 
   have hp : W1.cell? ⟨pb, 0, none⟩ = some (.func (.func 99) #[] #[.pointer (some ⟨fb, 0, none⟩)]) := ((bcell hb0).1 _ _ (cell_lt HP.out)).trans HP.out
   go_wp2_with fail
   refine (via (w0 := W1) (by go_grown) ((HC.out a _ hb0).mono fun e w' h => (⟨h.1, h.2 ▸ Below.refl _ _⟩ : _ ∧ _))).mono ?_
   rw [H1.out]
   rintro e W2 ⟨rfl, hc, hf, hz, hB⟩
   have zz := cy5 hc q0 q1 q2 q3 hp
   clear q0 q1 q2 q3 hp
   obtain ⟨q0, q1, q2, q3, hp⟩ := zz
   replace hb0 : Below w.heap.size w W2 := bthen hb0 hB
   have hzW2 : W1.heap.size ≤ W2.heap.size := hz
   clear hc hf hB hz
   go_wp2_with fail
   refine (via (w0 := W2) (by go_grown) ((HC.out b _ hb0).mono fun e w' h => (⟨h.1, h.2 ▸ Below.refl _ _⟩ : _ ∧ _))).mono ?_
   rw [H2.out]
   rintro e W3 ⟨rfl, hc, hf, hz, hB⟩
   have zz := cy5 hc q0 q1 q2 q3 hp
   clear q0 q1 q2 q3 hp
   obtain ⟨q0, q1, q2, q3, hp⟩ := zz
   replace hb0 : Below w.heap.size w W3 := bthen hb0 hB
   have hzW3 : W2.heap.size ≤ W3.heap.size := hz
   clear hc hf hB hz
   go_wp2_with fail
   go_ret
   exact ⟨rfl, by have hbz := hb0.size; go_grown⟩
theorem kinds_any (l : List Pl) : l.any (fun p => p.kind != 1 && p.kind != 2) = l.any kindBad := rfl
theorem ends_any (P : Nat) (l : List Gt) : l.any (fun g => !rg 0 ((P : Int) - 1) g.a || !rg 0 ((P : Int) - 1) g.b || g.a == g.b) = l.any (endsBad P) := rfl
theorem names_size {l : List ByteArray} (h : l.any (fun s => !nameB s) = false) : ∀ s ∈ l, s.size ≤ 1000000 := fun s hs => by
 have := List.any_eq_false.1 h s hs
 have := nameB_size (s := s) (by simpa using this)
 omega
theorem c_CheckFell_A1 (m : Fm) (w : World) (hm : m.In w) (ha1 : 8 < m.f.places.length) :
  Calls Tryz.prog 24 #[m.v] w fun e w' => e = .returned (.int .i64 2) ∧ Below w.heap.size w w' := by
 have HM := Lib.hid hm
 have hmf : ∀ (fn : Fn) (first cap : Array Value) (w : World), (Instr.makeFunc fn first cap).run Tryz.prog w = .ok (.func fn first cap) w := fun _ _ _ _ => rfl
 have hP := hm.pl.1
 have hG := hm.gt.1
 have h_pl := fun W (hb : Below w.heap.size w W) => c_places m W (hm.later hb)
 have h_gt := fun W (hb : Below w.heap.size w W) => c_gates m W (hm.later hb)
 have h_bp : ∀ (b : Option Addr) (c : Nat) (W : World), Strs W b (plNames m.f.places) → _ := fun b c W hs => c_anyStr 97 (enters_of Tryz.func97 (by kernel_rfl) rfl) #[] (fun s => !nameB s) (plNames m.f.places) b c W (fun W x _ _ => c_bad x W) hs
 have h_bg : ∀ (b : Option Addr) (c : Nat) (W : World), Strs W b (gtNames m.f.gates) → _ := fun b c W hs => c_anyStr 97 (enters_of Tryz.func97 (by kernel_rfl) rfl) #[] (fun s => !nameB s) (gtNames m.f.gates) b c W (fun W x _ _ => c_bad x W) hs
 have h_kd := fun W (hb : Below w.heap.size w W) => c_anyPl 106 (enters_of Tryz.func106 (by kernel_rfl) rfl) #[] kindBad m.f.places m.pa m.pc W (fun W x _ _ => c_kindBad x W) (hm.later hb).pl
 have h_mo := fun W (hb : Below w.heap.size w W) => c_anyGt 108 (enters_of Tryz.func108 (by kernel_rfl) rfl) #[] (fun g => !rg 0 1000 g.most) m.f.gates m.ga m.gc W (fun W x _ _ => c_mostBad x W) (hm.later hb).gt
 have h_en : ∀ (fb pb : Nat) (W : World), Below w.heap.size w W → W.cell? ⟨fb, 2, none⟩ = some (.slice m.pa m.f.places.length m.pc) → W.cell? ⟨pb, 0, none⟩ = some (.func (.func 99) #[] #[.pointer (some ⟨fb, 0, none⟩)]) → m.f.places.length ≤ 8 → _ := fun fb pb W hb h1 h2 h3 => c_anyGt 109 (enters_of Tryz.func109 (by kernel_rfl) rfl) #[.pointer (some ⟨pb, 0, none⟩)] (endsBad m.f.places.length) m.f.gates m.ga m.gc W (fun V x _ hV => c_endsBad x fb pb m.f.places.length m.pc m.pa V (by omega) (((bcell hV).1 _ _ (cell_lt h1)).trans h1) (((bcell hV).1 _ _ (cell_lt h2)).trans h2)) (hm.later hb).gt
 have a1 : (8 : Int) < (m.f.places.length : Int) := by omega
 have H_pl := Lib.hid h_pl
 have H_gt := Lib.hid h_gt
 have H_bp := Lib.hid h_bp
 have H_bg := Lib.hid h_bg
 have H_kd := Lib.hid h_kd
 have H_mo := Lib.hid h_mo
 have H_en := Lib.hid h_en
 clear hm h_pl h_gt h_bp h_bg h_kd h_mo h_en
 unfold Fm.v
 go_enter Tryz.func24, Tryz.ntmps24
 go_upto_region 3 with (fail)
 go_name_world W1 hW1
 have hb0 : Below w.heap.size w W1 := by subst hW1; go_grown
 obtain ⟨q0, q1, q2, q3⟩ := (show QB m W1 w.heap.size from by subst hW1; and_intros <;> go_simp)
 have pf : W1.cell? ⟨w.heap.size + 1, 0, none⟩ = some (.func (.func 99) #[] #[.pointer (some ⟨w.heap.size, 0, none⟩)]) := by subst hW1; go_simp
 clear hW1 
 go_wp2_with fail
 go_ret
 exact ⟨rfl, by have hbz := hb0.size; go_grown⟩
theorem c_CheckFell_A2 (m : Fm) (w : World) (hm : m.In w) (ha1 : m.f.places.length ≤ 8) (ha2 : 12 < m.f.gates.length) :
  Calls Tryz.prog 24 #[m.v] w fun e w' => e = .returned (.int .i64 2) ∧ Below w.heap.size w w' := by
 have HM := Lib.hid hm
 have hmf : ∀ (fn : Fn) (first cap : Array Value) (w : World), (Instr.makeFunc fn first cap).run Tryz.prog w = .ok (.func fn first cap) w := fun _ _ _ _ => rfl
 have hP := hm.pl.1
 have hG := hm.gt.1
 have h_pl := fun W (hb : Below w.heap.size w W) => c_places m W (hm.later hb)
 have h_gt := fun W (hb : Below w.heap.size w W) => c_gates m W (hm.later hb)
 have h_bp : ∀ (b : Option Addr) (c : Nat) (W : World), Strs W b (plNames m.f.places) → _ := fun b c W hs => c_anyStr 97 (enters_of Tryz.func97 (by kernel_rfl) rfl) #[] (fun s => !nameB s) (plNames m.f.places) b c W (fun W x _ _ => c_bad x W) hs
 have h_bg : ∀ (b : Option Addr) (c : Nat) (W : World), Strs W b (gtNames m.f.gates) → _ := fun b c W hs => c_anyStr 97 (enters_of Tryz.func97 (by kernel_rfl) rfl) #[] (fun s => !nameB s) (gtNames m.f.gates) b c W (fun W x _ _ => c_bad x W) hs
 have h_kd := fun W (hb : Below w.heap.size w W) => c_anyPl 106 (enters_of Tryz.func106 (by kernel_rfl) rfl) #[] kindBad m.f.places m.pa m.pc W (fun W x _ _ => c_kindBad x W) (hm.later hb).pl
 have h_mo := fun W (hb : Below w.heap.size w W) => c_anyGt 108 (enters_of Tryz.func108 (by kernel_rfl) rfl) #[] (fun g => !rg 0 1000 g.most) m.f.gates m.ga m.gc W (fun W x _ _ => c_mostBad x W) (hm.later hb).gt
 have h_en : ∀ (fb pb : Nat) (W : World), Below w.heap.size w W → W.cell? ⟨fb, 2, none⟩ = some (.slice m.pa m.f.places.length m.pc) → W.cell? ⟨pb, 0, none⟩ = some (.func (.func 99) #[] #[.pointer (some ⟨fb, 0, none⟩)]) → m.f.places.length ≤ 8 → _ := fun fb pb W hb h1 h2 h3 => c_anyGt 109 (enters_of Tryz.func109 (by kernel_rfl) rfl) #[.pointer (some ⟨pb, 0, none⟩)] (endsBad m.f.places.length) m.f.gates m.ga m.gc W (fun V x _ hV => c_endsBad x fb pb m.f.places.length m.pc m.pa V (by omega) (((bcell hV).1 _ _ (cell_lt h1)).trans h1) (((bcell hV).1 _ _ (cell_lt h2)).trans h2)) (hm.later hb).gt
 have a1 : ¬ (8 : Int) < (m.f.places.length : Int) := by omega
 have a2 : (12 : Int) < (m.f.gates.length : Int) := by omega
 have H_pl := Lib.hid h_pl
 have H_gt := Lib.hid h_gt
 have H_bp := Lib.hid h_bp
 have H_bg := Lib.hid h_bg
 have H_kd := Lib.hid h_kd
 have H_mo := Lib.hid h_mo
 have H_en := Lib.hid h_en
 clear hm h_pl h_gt h_bp h_bg h_kd h_mo h_en
 unfold Fm.v
 go_enter Tryz.func24, Tryz.ntmps24
 go_upto_region 3 with (fail)
 go_name_world W1 hW1
 have hb0 : Below w.heap.size w W1 := by subst hW1; go_grown
 obtain ⟨q0, q1, q2, q3⟩ := (show QB m W1 w.heap.size from by subst hW1; and_intros <;> go_simp)
 have pf : W1.cell? ⟨w.heap.size + 1, 0, none⟩ = some (.func (.func 99) #[] #[.pointer (some ⟨w.heap.size, 0, none⟩)]) := by subst hW1; go_simp
 clear hW1 
 go_wp2_with fail
 go_ret
 exact ⟨rfl, by have hbz := hb0.size; go_grown⟩
theorem c_CheckFell_A3 (m : Fm) (w : World) (hm : m.In w) (ha1 : m.f.places.length ≤ 8) (ha2 : m.f.gates.length ≤ 12) (ha3 : 24 < m.f.ticks) :
  Calls Tryz.prog 24 #[m.v] w fun e w' => e = .returned (.int .i64 2) ∧ Below w.heap.size w w' := by
 have HM := Lib.hid hm
 have hmf : ∀ (fn : Fn) (first cap : Array Value) (w : World), (Instr.makeFunc fn first cap).run Tryz.prog w = .ok (.func fn first cap) w := fun _ _ _ _ => rfl
 have hP := hm.pl.1
 have hG := hm.gt.1
 have h_pl := fun W (hb : Below w.heap.size w W) => c_places m W (hm.later hb)
 have h_gt := fun W (hb : Below w.heap.size w W) => c_gates m W (hm.later hb)
 have h_bp : ∀ (b : Option Addr) (c : Nat) (W : World), Strs W b (plNames m.f.places) → _ := fun b c W hs => c_anyStr 97 (enters_of Tryz.func97 (by kernel_rfl) rfl) #[] (fun s => !nameB s) (plNames m.f.places) b c W (fun W x _ _ => c_bad x W) hs
 have h_bg : ∀ (b : Option Addr) (c : Nat) (W : World), Strs W b (gtNames m.f.gates) → _ := fun b c W hs => c_anyStr 97 (enters_of Tryz.func97 (by kernel_rfl) rfl) #[] (fun s => !nameB s) (gtNames m.f.gates) b c W (fun W x _ _ => c_bad x W) hs
 have h_kd := fun W (hb : Below w.heap.size w W) => c_anyPl 106 (enters_of Tryz.func106 (by kernel_rfl) rfl) #[] kindBad m.f.places m.pa m.pc W (fun W x _ _ => c_kindBad x W) (hm.later hb).pl
 have h_mo := fun W (hb : Below w.heap.size w W) => c_anyGt 108 (enters_of Tryz.func108 (by kernel_rfl) rfl) #[] (fun g => !rg 0 1000 g.most) m.f.gates m.ga m.gc W (fun W x _ _ => c_mostBad x W) (hm.later hb).gt
 have h_en : ∀ (fb pb : Nat) (W : World), Below w.heap.size w W → W.cell? ⟨fb, 2, none⟩ = some (.slice m.pa m.f.places.length m.pc) → W.cell? ⟨pb, 0, none⟩ = some (.func (.func 99) #[] #[.pointer (some ⟨fb, 0, none⟩)]) → m.f.places.length ≤ 8 → _ := fun fb pb W hb h1 h2 h3 => c_anyGt 109 (enters_of Tryz.func109 (by kernel_rfl) rfl) #[.pointer (some ⟨pb, 0, none⟩)] (endsBad m.f.places.length) m.f.gates m.ga m.gc W (fun V x _ hV => c_endsBad x fb pb m.f.places.length m.pc m.pa V (by omega) (((bcell hV).1 _ _ (cell_lt h1)).trans h1) (((bcell hV).1 _ _ (cell_lt h2)).trans h2)) (hm.later hb).gt
 have a1 : ¬ (8 : Int) < (m.f.places.length : Int) := by omega
 have a2 : ¬ (12 : Int) < (m.f.gates.length : Int) := by omega
 have H_pl := Lib.hid h_pl
 have H_gt := Lib.hid h_gt
 have H_bp := Lib.hid h_bp
 have H_bg := Lib.hid h_bg
 have H_kd := Lib.hid h_kd
 have H_mo := Lib.hid h_mo
 have H_en := Lib.hid h_en
 clear hm h_pl h_gt h_bp h_bg h_kd h_mo h_en
 unfold Fm.v
 go_enter Tryz.func24, Tryz.ntmps24
 go_upto_region 3 with (fail)
 go_name_world W1 hW1
 have hb0 : Below w.heap.size w W1 := by subst hW1; go_grown
 obtain ⟨q0, q1, q2, q3⟩ := (show QB m W1 w.heap.size from by subst hW1; and_intros <;> go_simp)
 have pf : W1.cell? ⟨w.heap.size + 1, 0, none⟩ = some (.func (.func 99) #[] #[.pointer (some ⟨w.heap.size, 0, none⟩)]) := by subst hW1; go_simp
 clear hW1 
 go_wp2_with fail
 go_ret
 exact ⟨rfl, by have hbz := hb0.size; go_grown⟩
theorem c_CheckFell_B1 (m : Fm) (w : World) (hm : m.In w) (_ha1 : m.f.places.length ≤ 8) (ha2 : m.f.gates.length ≤ 12) (ha3 : m.f.ticks ≤ 24) (hb1 : m.f.places.length = 0) :
  Calls Tryz.prog 24 #[m.v] w fun e w' => e = .returned (.int .i64 5) ∧ Below w.heap.size w w' := by
 have HM := Lib.hid hm
 have hmf : ∀ (fn : Fn) (first cap : Array Value) (w : World), (Instr.makeFunc fn first cap).run Tryz.prog w = .ok (.func fn first cap) w := fun _ _ _ _ => rfl
 have hP := hm.pl.1
 have hG := hm.gt.1
 have h_pl := fun W (hb : Below w.heap.size w W) => c_places m W (hm.later hb)
 have h_gt := fun W (hb : Below w.heap.size w W) => c_gates m W (hm.later hb)
 have h_bp : ∀ (b : Option Addr) (c : Nat) (W : World), Strs W b (plNames m.f.places) → _ := fun b c W hs => c_anyStr 97 (enters_of Tryz.func97 (by kernel_rfl) rfl) #[] (fun s => !nameB s) (plNames m.f.places) b c W (fun W x _ _ => c_bad x W) hs
 have h_bg : ∀ (b : Option Addr) (c : Nat) (W : World), Strs W b (gtNames m.f.gates) → _ := fun b c W hs => c_anyStr 97 (enters_of Tryz.func97 (by kernel_rfl) rfl) #[] (fun s => !nameB s) (gtNames m.f.gates) b c W (fun W x _ _ => c_bad x W) hs
 have h_kd := fun W (hb : Below w.heap.size w W) => c_anyPl 106 (enters_of Tryz.func106 (by kernel_rfl) rfl) #[] kindBad m.f.places m.pa m.pc W (fun W x _ _ => c_kindBad x W) (hm.later hb).pl
 have h_mo := fun W (hb : Below w.heap.size w W) => c_anyGt 108 (enters_of Tryz.func108 (by kernel_rfl) rfl) #[] (fun g => !rg 0 1000 g.most) m.f.gates m.ga m.gc W (fun W x _ _ => c_mostBad x W) (hm.later hb).gt
 have h_en : ∀ (fb pb : Nat) (W : World), Below w.heap.size w W → W.cell? ⟨fb, 2, none⟩ = some (.slice m.pa m.f.places.length m.pc) → W.cell? ⟨pb, 0, none⟩ = some (.func (.func 99) #[] #[.pointer (some ⟨fb, 0, none⟩)]) → m.f.places.length ≤ 8 → _ := fun fb pb W hb h1 h2 h3 => c_anyGt 109 (enters_of Tryz.func109 (by kernel_rfl) rfl) #[.pointer (some ⟨pb, 0, none⟩)] (endsBad m.f.places.length) m.f.gates m.ga m.gc W (fun V x _ hV => c_endsBad x fb pb m.f.places.length m.pc m.pa V (by omega) (((bcell hV).1 _ _ (cell_lt h1)).trans h1) (((bcell hV).1 _ _ (cell_lt h2)).trans h2)) (hm.later hb).gt
 have a1 : ¬ (8 : Int) < (m.f.places.length : Int) := by omega
 have a2 : ¬ (12 : Int) < (m.f.gates.length : Int) := by omega
 have a3 : ¬ (24 : Int) < m.f.ticks := by omega
 have b1 : ((m.f.places.length : Int) == 0) = true := by rw [hb1]; rfl
 clear hb1
 have H_pl := Lib.hid h_pl
 have H_gt := Lib.hid h_gt
 have H_bp := Lib.hid h_bp
 have H_bg := Lib.hid h_bg
 have H_kd := Lib.hid h_kd
 have H_mo := Lib.hid h_mo
 have H_en := Lib.hid h_en
 clear hm h_pl h_gt h_bp h_bg h_kd h_mo h_en
 unfold Fm.v
 go_enter Tryz.func24, Tryz.ntmps24
 go_upto_region 3 with (fail)
 go_name_world W1 hW1
 have hb0 : Below w.heap.size w W1 := by subst hW1; go_grown
 obtain ⟨q0, q1, q2, q3⟩ := (show QB m W1 w.heap.size from by subst hW1; and_intros <;> go_simp)
 have pf : W1.cell? ⟨w.heap.size + 1, 0, none⟩ = some (.func (.func 99) #[] #[.pointer (some ⟨w.heap.size, 0, none⟩)]) := by subst hW1; go_simp
 clear hW1 
 go_wp2_with fail
 go_ret
 exact ⟨rfl, by have hbz := hb0.size; go_grown⟩
theorem c_CheckFell_B2 (m : Fm) (w : World) (hm : m.In w) (ha1 : m.f.places.length ≤ 8) (ha2 : m.f.gates.length ≤ 12) (_ha3 : m.f.ticks ≤ 24) (hb1 : m.f.places.length ≠ 0) (hb2 : m.f.ticks < 1) :
  Calls Tryz.prog 24 #[m.v] w fun e w' => e = .returned (.int .i64 5) ∧ Below w.heap.size w w' := by
 have HM := Lib.hid hm
 have hmf : ∀ (fn : Fn) (first cap : Array Value) (w : World), (Instr.makeFunc fn first cap).run Tryz.prog w = .ok (.func fn first cap) w := fun _ _ _ _ => rfl
 have hP := hm.pl.1
 have hG := hm.gt.1
 have h_pl := fun W (hb : Below w.heap.size w W) => c_places m W (hm.later hb)
 have h_gt := fun W (hb : Below w.heap.size w W) => c_gates m W (hm.later hb)
 have h_bp : ∀ (b : Option Addr) (c : Nat) (W : World), Strs W b (plNames m.f.places) → _ := fun b c W hs => c_anyStr 97 (enters_of Tryz.func97 (by kernel_rfl) rfl) #[] (fun s => !nameB s) (plNames m.f.places) b c W (fun W x _ _ => c_bad x W) hs
 have h_bg : ∀ (b : Option Addr) (c : Nat) (W : World), Strs W b (gtNames m.f.gates) → _ := fun b c W hs => c_anyStr 97 (enters_of Tryz.func97 (by kernel_rfl) rfl) #[] (fun s => !nameB s) (gtNames m.f.gates) b c W (fun W x _ _ => c_bad x W) hs
 have h_kd := fun W (hb : Below w.heap.size w W) => c_anyPl 106 (enters_of Tryz.func106 (by kernel_rfl) rfl) #[] kindBad m.f.places m.pa m.pc W (fun W x _ _ => c_kindBad x W) (hm.later hb).pl
 have h_mo := fun W (hb : Below w.heap.size w W) => c_anyGt 108 (enters_of Tryz.func108 (by kernel_rfl) rfl) #[] (fun g => !rg 0 1000 g.most) m.f.gates m.ga m.gc W (fun W x _ _ => c_mostBad x W) (hm.later hb).gt
 have h_en : ∀ (fb pb : Nat) (W : World), Below w.heap.size w W → W.cell? ⟨fb, 2, none⟩ = some (.slice m.pa m.f.places.length m.pc) → W.cell? ⟨pb, 0, none⟩ = some (.func (.func 99) #[] #[.pointer (some ⟨fb, 0, none⟩)]) → m.f.places.length ≤ 8 → _ := fun fb pb W hb h1 h2 h3 => c_anyGt 109 (enters_of Tryz.func109 (by kernel_rfl) rfl) #[.pointer (some ⟨pb, 0, none⟩)] (endsBad m.f.places.length) m.f.gates m.ga m.gc W (fun V x _ hV => c_endsBad x fb pb m.f.places.length m.pc m.pa V (by omega) (((bcell hV).1 _ _ (cell_lt h1)).trans h1) (((bcell hV).1 _ _ (cell_lt h2)).trans h2)) (hm.later hb).gt
 have a1 : ¬ (8 : Int) < (m.f.places.length : Int) := by omega
 have a2 : ¬ (12 : Int) < (m.f.gates.length : Int) := by omega
 have a3 : ¬ (24 : Int) < m.f.ticks := by omega
 have b1 : ((m.f.places.length : Int) == 0) = false := beq_eq_false_iff_ne.2 (by omega)
 clear hb1
 have H_pl := Lib.hid h_pl
 have H_gt := Lib.hid h_gt
 have H_bp := Lib.hid h_bp
 have H_bg := Lib.hid h_bg
 have H_kd := Lib.hid h_kd
 have H_mo := Lib.hid h_mo
 have H_en := Lib.hid h_en
 clear hm h_pl h_gt h_bp h_bg h_kd h_mo h_en
 unfold Fm.v
 go_enter Tryz.func24, Tryz.ntmps24
 go_upto_region 3 with (fail)
 go_name_world W1 hW1
 have hb0 : Below w.heap.size w W1 := by subst hW1; go_grown
 obtain ⟨q0, q1, q2, q3⟩ := (show QB m W1 w.heap.size from by subst hW1; and_intros <;> go_simp)
 have pf : W1.cell? ⟨w.heap.size + 1, 0, none⟩ = some (.func (.func 99) #[] #[.pointer (some ⟨w.heap.size, 0, none⟩)]) := by subst hW1; go_simp
 clear hW1 
 go_wp2_with fail
 go_ret
 exact ⟨rfl, by have hbz := hb0.size; go_grown⟩
theorem c_CheckFell_CF (m : Fm) (w : World) (hm : m.In w) (ha1 : m.f.places.length ≤ 8) (ha2 : m.f.gates.length ≤ 12) (ha3 : m.f.ticks ≤ 24) (hb1 : m.f.places.length ≠ 0) (hb2 : 1 ≤ m.f.ticks) :
  Calls Tryz.prog 24 #[m.v] w fun e w' => e = .returned (.int .i64 (if (plNames m.f.places).any (fun s => !nameB s) = true ∨ (gtNames m.f.gates).any (fun s => !nameB s) = true then 4 else if twiceB (plNames m.f.places) = true ∨ twiceB (gtNames m.f.gates) = true then 6 else if rg 0 1000 m.f.yields = false ∨ m.f.places.any kindBad = true ∨ m.f.gates.any (fun g => !rg 0 1000 g.most) = true then 1 else if m.f.gates.any (endsBad m.f.places.length) = true then 50 else 0)) ∧ Below w.heap.size w w' := by
 have HM := Lib.hid hm
 have hmf : ∀ (fn : Fn) (first cap : Array Value) (w : World), (Instr.makeFunc fn first cap).run Tryz.prog w = .ok (.func fn first cap) w := fun _ _ _ _ => rfl
 have hP := hm.pl.1
 have hG := hm.gt.1
 have h_pl := fun W (hb : Below w.heap.size w W) => c_places m W (hm.later hb)
 have h_gt := fun W (hb : Below w.heap.size w W) => c_gates m W (hm.later hb)
 have h_bp : ∀ (b : Option Addr) (c : Nat) (W : World), Strs W b (plNames m.f.places) → _ := fun b c W hs => c_anyStr 97 (enters_of Tryz.func97 (by kernel_rfl) rfl) #[] (fun s => !nameB s) (plNames m.f.places) b c W (fun W x _ _ => c_bad x W) hs
 have h_bg : ∀ (b : Option Addr) (c : Nat) (W : World), Strs W b (gtNames m.f.gates) → _ := fun b c W hs => c_anyStr 97 (enters_of Tryz.func97 (by kernel_rfl) rfl) #[] (fun s => !nameB s) (gtNames m.f.gates) b c W (fun W x _ _ => c_bad x W) hs
 have h_kd := fun W (hb : Below w.heap.size w W) => c_anyPl 106 (enters_of Tryz.func106 (by kernel_rfl) rfl) #[] kindBad m.f.places m.pa m.pc W (fun W x _ _ => c_kindBad x W) (hm.later hb).pl
 have h_mo := fun W (hb : Below w.heap.size w W) => c_anyGt 108 (enters_of Tryz.func108 (by kernel_rfl) rfl) #[] (fun g => !rg 0 1000 g.most) m.f.gates m.ga m.gc W (fun W x _ _ => c_mostBad x W) (hm.later hb).gt
 have h_en : ∀ (fb pb : Nat) (W : World), Below w.heap.size w W → W.cell? ⟨fb, 2, none⟩ = some (.slice m.pa m.f.places.length m.pc) → W.cell? ⟨pb, 0, none⟩ = some (.func (.func 99) #[] #[.pointer (some ⟨fb, 0, none⟩)]) → m.f.places.length ≤ 8 → _ := fun fb pb W hb h1 h2 h3 => c_anyGt 109 (enters_of Tryz.func109 (by kernel_rfl) rfl) #[.pointer (some ⟨pb, 0, none⟩)] (endsBad m.f.places.length) m.f.gates m.ga m.gc W (fun V x _ hV => c_endsBad x fb pb m.f.places.length m.pc m.pa V (by omega) (((bcell hV).1 _ _ (cell_lt h1)).trans h1) (((bcell hV).1 _ _ (cell_lt h2)).trans h2)) (hm.later hb).gt
 have a1 : ¬ (8 : Int) < (m.f.places.length : Int) := by omega
 have a2 : ¬ (12 : Int) < (m.f.gates.length : Int) := by omega
 have a3 : ¬ (24 : Int) < m.f.ticks := by omega
 have b1 : ((m.f.places.length : Int) == 0) = false := beq_eq_false_iff_ne.2 (by omega)
 have b2 : ¬ m.f.ticks < (1 : Int) := by omega
 clear hb1 hb2
 have H_pl := Lib.hid h_pl
 have H_gt := Lib.hid h_gt
 have H_bp := Lib.hid h_bp
 have H_bg := Lib.hid h_bg
 have H_kd := Lib.hid h_kd
 have H_mo := Lib.hid h_mo
 have H_en := Lib.hid h_en
 clear hm h_pl h_gt h_bp h_bg h_kd h_mo h_en
 unfold Fm.v
 obtain ⟨kc1, hc1⟩ : ∃ b, (plNames m.f.places).any (fun s => !nameB s) = b := ⟨_, rfl⟩
 obtain ⟨kc2, hc2⟩ : ∃ b, (gtNames m.f.gates).any (fun s => !nameB s) = b := ⟨_, rfl⟩
 obtain ⟨kd1, hd1⟩ : ∃ b, twiceB (plNames m.f.places) = b := ⟨_, rfl⟩
 obtain ⟨kd2, hd2⟩ : ∃ b, twiceB (gtNames m.f.gates) = b := ⟨_, rfl⟩
 obtain ⟨ke1, he1⟩ : ∃ b, rg 0 1000 m.f.yields = b := ⟨_, rfl⟩
 obtain ⟨ke2, he2⟩ : ∃ b, m.f.places.any kindBad = b := ⟨_, rfl⟩
 obtain ⟨ke3, he3⟩ : ∃ b, m.f.gates.any (fun g => !rg 0 1000 g.most) = b := ⟨_, rfl⟩
 obtain ⟨kf1, hf1⟩ : ∃ b, m.f.gates.any (endsBad m.f.places.length) = b := ⟨_, rfl⟩
 rw [hc1, hc2, hd1, hd2, he1, he2, he3, hf1]
 have C1K := Lib.hid hc1
 have C2K := Lib.hid hc2
 have D1K := Lib.hid hd1
 have D2K := Lib.hid hd2
 have E1K := Lib.hid he1
 have E2K := Lib.hid he2
 have E3K := Lib.hid he3
 have F1K := Lib.hid hf1
 clear hc1 hc2 hd1 hd2 he1 he2 he3 hf1
 go_enter Tryz.func24, Tryz.ntmps24
 go_upto_region 3 with (fail)
 go_name_world W1 hW1
 have hb0 : Below w.heap.size w W1 := by subst hW1; go_grown
 obtain ⟨q0, q1, q2, q3⟩ := (show QB m W1 w.heap.size from by subst hW1; and_intros <;> go_simp)
 have pf : W1.cell? ⟨w.heap.size + 1, 0, none⟩ = some (.func (.func 99) #[] #[.pointer (some ⟨w.heap.size, 0, none⟩)]) := by subst hW1; go_simp
 clear hW1 
 go_wp2_with fail
 refine (H_pl.out _ hb0).mono ?_
 rintro e W2 ⟨⟨b1, c1, rfl, hs1⟩, hB⟩
 have hc := (bcell hB).1
 have hf := (bcell hB).2
 have hz := hB.size
 have zz := cy5 hc q0 q1 q2 q3 pf
 clear q0 q1 q2 q3 pf
 obtain ⟨q0, q1, q2, q3, pf⟩ := zz
 replace hb0 : Below w.heap.size w W2 := bthen hb0 hB
 have hzW2 : W1.heap.size ≤ W2.heap.size := hz
 clear hc hf hB hz
 go_wp2_with fail
 refine (via (w0 := W2) (by go_grown) (H_bp.out b1 c1 _ hs1)).mono ?_
 rw [C1K.out]
 rintro e W3 ⟨rfl, hc, hf, hz, hB⟩
 have zz := cy5 hc q0 q1 q2 q3 pf
 clear q0 q1 q2 q3 pf
 obtain ⟨q0, q1, q2, q3, pf⟩ := zz
 replace hb0 : Below w.heap.size w W3 := bthen hb0 hB
 have hzW3 : W2.heap.size ≤ W3.heap.size := hz
 clear hc hf hB hz
 cases kc1
 ·have C1 := C1K
  clear C1K
  have HC1 := C1
  go_wp2_with fail
  refine (H_gt.out _ hb0).mono ?_
  rintro e W4 ⟨⟨b2, c2, rfl, hs2⟩, hB⟩
  have hc := (bcell hB).1
  have hf := (bcell hB).2
  have hz := hB.size
  have zz := cy5 hc q0 q1 q2 q3 pf
  clear q0 q1 q2 q3 pf
  obtain ⟨q0, q1, q2, q3, pf⟩ := zz
  replace hb0 : Below w.heap.size w W4 := bthen hb0 hB
  have hzW4 : W3.heap.size ≤ W4.heap.size := hz
  clear hc hf hB hz
  go_wp2_with fail
  refine (via (w0 := W4) (by go_grown) (H_bg.out b2 c2 _ hs2)).mono ?_
  rw [C2K.out]
  rintro e W5 ⟨rfl, hc, hf, hz, hB⟩
  have zz := cy5 hc q0 q1 q2 q3 pf
  clear q0 q1 q2 q3 pf
  obtain ⟨q0, q1, q2, q3, pf⟩ := zz
  replace hb0 : Below w.heap.size w W5 := bthen hb0 hB
  have hzW5 : W4.heap.size ≤ W5.heap.size := hz
  clear hc hf hB hz
  cases kc2
  ·have C2 := C2K
   clear C2K
   have HC2 := C2
   have H_sp := Lib.hid (names_size HC1.out)
   have H_sg := Lib.hid (names_size HC2.out)
   go_wp2_with fail
   refine (H_pl.out _ hb0).mono ?_
   rintro e W6 ⟨⟨b3, c3, rfl, hs3⟩, hB⟩
   have hc := (bcell hB).1
   have hf := (bcell hB).2
   have hz := hB.size
   have zz := cy5 hc q0 q1 q2 q3 pf
   clear q0 q1 q2 q3 pf
   obtain ⟨q0, q1, q2, q3, pf⟩ := zz
   replace hb0 : Below w.heap.size w W6 := bthen hb0 hB
   have hzW6 : W5.heap.size ≤ W6.heap.size := hz
   clear hc hf hB hz
   go_wp2_with fail
   refine (via (w0 := W6) (by go_grown) (c_twice _ b3 c3 _ hs3 H_sp.out (by unfold plNames; rw [List.length_map]; omega))).mono ?_
   rw [D1K.out]
   rintro e W7 ⟨rfl, hc, hf, hz, hB⟩
   have zz := cy5 hc q0 q1 q2 q3 pf
   clear q0 q1 q2 q3 pf
   obtain ⟨q0, q1, q2, q3, pf⟩ := zz
   replace hb0 : Below w.heap.size w W7 := bthen hb0 hB
   have hzW7 : W6.heap.size ≤ W7.heap.size := hz
   clear hc hf hB hz
   cases kd1
   ·have D1 := D1K
    clear D1K
    go_wp2_with fail
    refine (H_gt.out _ hb0).mono ?_
    rintro e W8 ⟨⟨b4, c4, rfl, hs4⟩, hB⟩
    have hc := (bcell hB).1
    have hf := (bcell hB).2
    have hz := hB.size
    have zz := cy5 hc q0 q1 q2 q3 pf
    clear q0 q1 q2 q3 pf
    obtain ⟨q0, q1, q2, q3, pf⟩ := zz
    replace hb0 : Below w.heap.size w W8 := bthen hb0 hB
    have hzW8 : W7.heap.size ≤ W8.heap.size := hz
    clear hc hf hB hz
    go_wp2_with fail
    refine (via (w0 := W8) (by go_grown) (c_twice _ b4 c4 _ hs4 H_sg.out (by unfold gtNames; rw [List.length_map]; omega))).mono ?_
    rw [D2K.out]
    rintro e W9 ⟨rfl, hc, hf, hz, hB⟩
    have zz := cy5 hc q0 q1 q2 q3 pf
    clear q0 q1 q2 q3 pf
    obtain ⟨q0, q1, q2, q3, pf⟩ := zz
    replace hb0 : Below w.heap.size w W9 := bthen hb0 hB
    have hzW9 : W8.heap.size ≤ W9.heap.size := hz
    clear hc hf hB hz
    cases kd2
    ·have D2 := D2K
     clear D2K
     go_wp2_with fail
     refine (via (w0 := W9) (by go_grown) ((c_in _ _ _ _).mono fun e w' h => (⟨h.1, h.2 ▸ Below.refl _ _⟩ : _ ∧ _))).mono ?_
     rw [E1K.out]
     rintro e W10 ⟨rfl, hc, hf, hz, hB⟩
     have zz := cy5 hc q0 q1 q2 q3 pf
     clear q0 q1 q2 q3 pf
     obtain ⟨q0, q1, q2, q3, pf⟩ := zz
     replace hb0 : Below w.heap.size w W10 := bthen hb0 hB
     have hzW10 : W9.heap.size ≤ W10.heap.size := hz
     clear hc hf hB hz
     cases ke1
     ·have E1 := E1K
      clear E1K
      go_wp2_with fail
      go_ret
      exact ⟨by simp, by have hbz := hb0.size; go_grown⟩
     ·have E1 := E1K
      clear E1K
      go_wp2_with fail
      refine (via (w0 := W10) (by go_grown) (H_kd.out _ hb0)).mono ?_
      rw [E2K.out]
      rintro e W11 ⟨rfl, hc, hf, hz, hB⟩
      have zz := cy5 hc q0 q1 q2 q3 pf
      clear q0 q1 q2 q3 pf
      obtain ⟨q0, q1, q2, q3, pf⟩ := zz
      replace hb0 : Below w.heap.size w W11 := bthen hb0 hB
      have hzW11 : W10.heap.size ≤ W11.heap.size := hz
      clear hc hf hB hz
      cases ke2
      ·have E2 := E2K
       clear E2K
       go_wp2_with fail
       refine (via (w0 := W11) (by go_grown) (H_mo.out _ hb0)).mono ?_
       rw [E3K.out]
       rintro e W12 ⟨rfl, hc, hf, hz, hB⟩
       have zz := cy5 hc q0 q1 q2 q3 pf
       clear q0 q1 q2 q3 pf
       obtain ⟨q0, q1, q2, q3, pf⟩ := zz
       replace hb0 : Below w.heap.size w W12 := bthen hb0 hB
       have hzW12 : W11.heap.size ≤ W12.heap.size := hz
       clear hc hf hB hz
       cases ke3
       ·have E3 := E3K
        clear E3K
        go_wp2_with fail
        refine (via (w0 := W12) (by go_grown) (H_en.out w.heap.size (w.heap.size + 1) _ hb0 q2 pf (by omega))).mono ?_
        rw [F1K.out]
        rintro e W13 ⟨rfl, hc, hf, hz, hB⟩
        have zz := cy5 hc q0 q1 q2 q3 pf
        clear q0 q1 q2 q3 pf
        obtain ⟨q0, q1, q2, q3, pf⟩ := zz
        replace hb0 : Below w.heap.size w W13 := bthen hb0 hB
        have hzW13 : W12.heap.size ≤ W13.heap.size := hz
        clear hc hf hB hz
        cases kf1
        ·have F1 := F1K
         clear F1K
         go_wp2_with fail
         go_ret
         exact ⟨by simp, by have hbz := hb0.size; go_grown⟩
        ·have F1 := F1K
         clear F1K
         go_wp2_with fail
         go_ret
         exact ⟨by simp, by have hbz := hb0.size; go_grown⟩
       ·have E3 := E3K
        clear E3K
        go_wp2_with fail
        go_ret
        exact ⟨by simp, by have hbz := hb0.size; go_grown⟩
      ·have E2 := E2K
       clear E2K
       go_wp2_with fail
       go_ret
       exact ⟨by simp, by have hbz := hb0.size; go_grown⟩
    ·have D2 := D2K
     clear D2K
     go_wp2_with fail
     go_ret
     exact ⟨by simp, by have hbz := hb0.size; go_grown⟩
   ·have D1 := D1K
    clear D1K
    go_wp2_with fail
    go_ret
    exact ⟨by simp, by have hbz := hb0.size; go_grown⟩
  ·have C2 := C2K
   clear C2K
   go_wp2_with fail
   go_ret
   exact ⟨by simp, by have hbz := hb0.size; go_grown⟩
 ·have C1 := C1K
  clear C1K
  go_wp2_with fail
  go_ret
  exact ⟨by simp, by have hbz := hb0.size; go_grown⟩
theorem c_CheckFell (m : Fm) (w : World) (hm : m.In w) :
  Calls Tryz.prog 24 #[m.v] w fun e w' => e = .returned (.int .i64 (checkE m.f)) ∧ Below w.heap.size w w' := by
 by_cases ha : 8 < m.f.places.length ∨ 12 < m.f.gates.length ∨ 24 < m.f.ticks
 ·rw [show checkE m.f = 2 from if_pos ha]
  by_cases ha1 : 8 < m.f.places.length
  ·exact c_CheckFell_A1 m w hm ha1
  ·by_cases ha2 : 12 < m.f.gates.length
   ·exact c_CheckFell_A2 m w hm (by omega) ha2
   ·exact c_CheckFell_A3 m w hm (by omega) (by omega) (by omega)
 ·have ha1 : m.f.places.length ≤ 8 := by omega
  have ha2 : m.f.gates.length ≤ 12 := by omega
  have ha3 : m.f.ticks ≤ 24 := by omega
  by_cases hb : m.f.places.length = 0 ∨ m.f.ticks < 1
  ·rw [show checkE m.f = 5 from (if_neg ha).trans (if_pos hb)]
   by_cases hb1 : m.f.places.length = 0
   ·exact c_CheckFell_B1 m w hm ha1 ha2 ha3 hb1
   ·exact c_CheckFell_B2 m w hm ha1 ha2 ha3 hb1 (by omega)
  ·have hb1 : m.f.places.length ≠ 0 := by omega
   have hb2 : 1 ≤ m.f.ticks := by omega
   have e2 : checkE m.f = _ := (if_neg ha).trans (if_neg hb)
   rw [e2, kinds_any, ends_any]
   exact c_CheckFell_CF m w hm ha1 ha2 ha3 hb1 hb2
structure Right (f : Fe) : Prop where
 p0 : 1 ≤ f.places.length
 p8 : f.places.length ≤ 8
 g12 : f.gates.length ≤ 12
 t1 : 1 ≤ f.ticks
 t24 : f.ticks ≤ 24
 pn : (plNames f.places).any (fun s => !nameB s) = false
 gn : (gtNames f.gates).any (fun s => !nameB s) = false
 pt : twiceB (plNames f.places) = false
 gt : twiceB (gtNames f.gates) = false
 y : rg 0 1000 f.yields = true
 kd : f.places.any kindBad = false
 mo : f.gates.any (fun g => !rg 0 1000 g.most) = false
 en : f.gates.any (endsBad f.places.length) = false
theorem right_of {f : Fe} (h : checkE f = 0) : Right f := by
 unfold checkE at h
 rw [kinds_any, ends_any] at h
 by_cases ha : 8 < f.places.length ∨ 12 < f.gates.length ∨ 24 < f.ticks
 ·rw [if_pos ha] at h; cases h
 by_cases hb : f.places.length = 0 ∨ f.ticks < 1
 ·rw [if_neg ha, if_pos hb] at h; cases h
 rw [if_neg ha, if_neg hb] at h
 split at h
 ·cases h
 rename_i hc
 split at h
 ·cases h
 rename_i hd
 split at h
 ·cases h
 rename_i he
 split at h
 ·cases h
 rename_i hf
 simp only [not_or, Bool.not_eq_true] at hc hd he hf
 exact ⟨by omega, by omega, by omega, by omega, by omega, hc.1, hc.2, hd.1, hd.2, by simpa using he.1, he.2.1, he.2.2, hf⟩
end Go.Proofs.YtlppdgaogdpajaaGreatDoor
