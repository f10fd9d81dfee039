/- This text proves what Misses and Doubles, of package tally and of its reference, return at every number and count. -/
import Derived.Test.YthdenmbfeanioaaGreatDoorFitting
import Derived.Test.YthdenmbfeanioaaGreatDoorRefChecks
namespace Go.Proofs.YthdenmbfeanioaaGreatDoor
open Go.RowKit

def okA (n c : Int) : Bool := inR 1 100000 n && inR 0 200000 c
def askR (p : Int → Bool) : Int × Bool := if ft p 501 ≤ 500 then ((ft p 501 : Int), true) else (0, false)
def askedV (p : Int → Bool) (n c : Int) : Int × Bool := if okA n c then askR p else (0, false)
def missV (n c : Int) : Int × Bool := askedV (fun k => decide (lowN k n ≤ c)) n c
def doubV (n c : Int) : Int × Bool := askedV (fun k => decide (c ≤ highN k n)) n c
theorem lowN_anti {n i j : Int} (hn : 0 ≤ n) (hij : i ≤ j) : lowN j n ≤ lowN i n := by
  unfold lowN
  have h1 : n * i ≤ n * j := Int.mul_le_mul_of_nonneg_left hij hn
  omega
theorem highN_monoR {n i j : Int} (hn : 0 ≤ n) (hij : i ≤ j) : highN i n ≤ highN j n := by
  unfold highN
  have h1 : n * i ≤ n * j := Int.mul_le_mul_of_nonneg_left hij hn
  omega
theorem rises_miss {n c : Int} (hn : 0 ≤ n) (N : Nat) : Rises (fun k => decide (lowN k n ≤ c)) N := by
  intro i j hij _ h
  have := lowN_anti hn (show (i : Int) ≤ j by omega)
  simp only [decide_eq_true_eq] at h ⊢
  omega
theorem rises_doub {n c : Int} (hn : 0 ≤ n) (N : Nat) : Rises (fun k => decide (c ≤ highN k n)) N := by
  intro i j hij _ h
  have := highN_monoR hn (show (i : Int) ≤ j by omega)
  simp only [decide_eq_true_eq] at h ⊢
  omega
theorem run_field_side (f g : Fn) (w : World) : (Instr.field 70 (.agg #[.func f #[] #[], .func g #[] #[]]) 0).run Tryz.prog w = .ok (.func f #[] #[]) w := by kernel_rfl

theorem c_Misses1 (k n c : Int) (a b : Nat) (w : World) (hn : 0 ≤ n ∧ n ≤ 1000000) (hk : 0 ≤ k ∧ k ≤ 1000) (h1 : w.cell? ⟨a,0,none⟩ = some (.int .i64 n)) (h2 : w.cell? ⟨b,0,none⟩ = some (.int .i64 c)) :
    Calls Tryz.prog 43 #[.int .i64 k, .pointer (some ⟨a,0,none⟩), .pointer (some ⟨b,0,none⟩)] w fun e w' => e = .returned (.bool (decide (lowN k n ≤ c))) ∧ Below w.heap.size w w' := by
  have hl := fun W => c_least1 n k W hn hk
  have HL := Lib.hid hl
  clear hl
  have hfld := run_field_side
  go_enter Tryz.func43, Tryz.ntmps43
  go_wp2_with fail
  have k1 := later_cell h1
  have k2 := later_cell h2
  clear h1 h2
  refine wp_region_later w (by kernel_rfl) (by kernel_rfl) (Below.refl _ _) ?_
  repeat (go_big_quiet_step (first | (go_at_call 35; with_reducible exact in_region (c_least _)) | (go_at_call 56; exact in_region ((HL.out _).mono fun _ _ ⟨he, hw⟩ => ⟨he, hw ▸ Below.refl _ _⟩))))
  refine wpQuiet_nil ?_
  rintro ⟨W, hW⟩
  go_wp2
  go_ret
  exact ⟨ret_bool (by simp), hW⟩

theorem c_Doubles1 (k n c : Int) (a b : Nat) (w : World) (hn : 0 ≤ n ∧ n ≤ 1000000) (hk : 0 ≤ k ∧ k ≤ 1000) (h1 : w.cell? ⟨a,0,none⟩ = some (.int .i64 n)) (h2 : w.cell? ⟨b,0,none⟩ = some (.int .i64 c)) :
    Calls Tryz.prog 44 #[.int .i64 k, .pointer (some ⟨a,0,none⟩), .pointer (some ⟨b,0,none⟩)] w fun e w' => e = .returned (.bool (decide (c ≤ highN k n))) ∧ Below w.heap.size w w' := by
  have hl := fun W => c_greatest1 n k W hn hk
  have HL := Lib.hid hl
  clear hl
  have hfld := run_field_side
  go_enter Tryz.func44, Tryz.ntmps44
  go_wp2_with fail
  have k1 := later_cell h1
  have k2 := later_cell h2
  clear h1 h2
  refine wp_region_later w (by kernel_rfl) (by kernel_rfl) (Below.refl _ _) ?_
  repeat (go_big_quiet_step (first | (go_at_call 37; with_reducible exact in_region (c_greatest _)) | (go_at_call 58; exact in_region ((HL.out _).mono fun _ _ ⟨he, hw⟩ => ⟨he, hw ▸ Below.refl _ _⟩))))
  refine wpQuiet_nil ?_
  rintro ⟨W, hW⟩
  go_wp2
  go_ret
  exact ⟨ret_bool (by simp), hW⟩

theorem askR_yes {p : Int → Bool} (h : ft p 501 ≤ 500) : askR p = ((ft p 501 : Int), true) := if_pos h
theorem askR_no {p : Int → Bool} (h : ¬ ft p 501 ≤ 500) : askR p = (0, false) := if_neg h
set_option maxHeartbeats 1000000 in
theorem c_asked (g : FuncId) (eg : Ent g) (env : Array Value) (p : Int → Bool) (n c : Int) (w : World) (hp : Pred g env (fun k => 0 ≤ k ∧ k < ((501 : Nat) : Int)) p w) (hr : 1 ≤ n → Rises p 501) :
    Calls Tryz.prog 42 #[.int .i64 n, .int .i64 c, .func (.func g) #[] env] w fun e w' =>
      e = .returned (.tuple #[.int .i64 (askedV p n c).1, .bool (askedV p n c).2]) ∧ Below w.heap.size w w' := by
  have HE := Lib.hid eg
  have HP := Lib.hid hp
  clear eg hp
  cases h1 : inR 1 100000 n
  · have hv : askedV p n c = (0, false) := by simp [askedV, okA, h1]
    rw [hv]
    clear hv
    go_enter Tryz.func42, Tryz.ntmps42
    go_wp2_with fail
    refine (via (w0 := w) (by go_grown) (c_in_one 1 100000 n _ _ _ (by go_simp))).mono ?_
    rw [h1]
    rintro e W1 ⟨rfl, hc, hf, hz, hB⟩
    have hb0 := hB
    have hzW1 : w.heap.size ≤ W1.heap.size := hz
    clear hc hf hB hz
    go_wp2_with fail
    go_ret2
    exact ⟨rfl, by have hbz := hb0.size; go_grown⟩
  cases h2 : inR 0 200000 c
  · have hv : askedV p n c = (0, false) := by simp [askedV, okA, h2]
    rw [hv]
    clear hv
    go_enter Tryz.func42, Tryz.ntmps42
    go_wp2_with fail
    refine (via (w0 := w) (by go_grown) (c_in_one 1 100000 n _ _ _ (by go_simp))).mono ?_
    rw [h1]
    rintro e W1 ⟨rfl, hc, hf, hz, hB⟩
    have hb0 := hB
    have hzW1 : w.heap.size ≤ W1.heap.size := hz
    clear hc hf hB hz
    go_wp2_with fail
    refine (via (w0 := W1) (by go_grown) (c_in_one 0 200000 c _ _ _ (by go_simp))).mono ?_
    rw [h2]
    rintro e W2 ⟨rfl, hc, hf, hz, hB⟩
    have hbn : Below w.heap.size w W2 := bthen hb0 hB
    clear hb0
    have hb0 := hbn
    clear hbn
    have hzW2 : W1.heap.size ≤ W2.heap.size := hz
    clear hc hf hB hz
    go_wp2_with fail
    go_ret2
    exact ⟨rfl, by have hbz := hb0.size; go_grown⟩
  have HR := Lib.hid (hr (inR_iff.1 h1).1)
  clear hr
  have hv : askedV p n c = askR p := by simp [askedV, okA, h1, h2]
  rw [hv]
  clear hv
  obtain ⟨F, hF⟩ : ∃ F : Int, (ft p 501 : Int) = F := ⟨_, rfl⟩
  by_cases h3 : F ≤ 500
  · rw [askR_yes (by omega), hF]
    have HF := Lib.hid hF
    clear hF
    go_enter Tryz.func42, Tryz.ntmps42
    go_wp2_with fail
    refine (via (w0 := w) (by go_grown) (c_in_one 1 100000 n _ _ _ (by go_simp))).mono ?_
    rw [h1]
    rintro e W1 ⟨rfl, hc, hf, hz, hB⟩
    have hb0 := hB
    have hzW1 : w.heap.size ≤ W1.heap.size := hz
    clear hc hf hB hz
    go_wp2_with fail
    refine (via (w0 := W1) (by go_grown) (c_in_one 0 200000 c _ _ _ (by go_simp))).mono ?_
    rw [h2]
    rintro e W2 ⟨rfl, hc, hf, hz, hB⟩
    have hbn : Below w.heap.size w W2 := bthen hb0 hB
    clear hb0
    have hb0 := hbn
    clear hbn
    have hzW2 : W1.heap.size ≤ W2.heap.size := hz
    clear hc hf hB hz
    go_wp2_with fail
    have hps := HP.out.later hb0
    refine (via (w0 := W2) (by go_grown) (c_Search g HE.out env p 501 _ (by omega) hps HR.out)).mono ?_
    rw [HF.out]
    rintro e W3 ⟨rfl, hc, hf, hz, hB⟩
    have hbn : Below w.heap.size w W3 := bthen hb0 hB
    clear hb0
    have hb0 := hbn
    clear hbn
    have hzW3 : W2.heap.size ≤ W3.heap.size := hz
    clear hc hf hB hz
    clear hps
    go_wp2_with fail
    go_ret2
    exact ⟨rfl, by have hbz := hb0.size; go_grown⟩
  · rw [askR_no (by omega)]
    have HF := Lib.hid hF
    clear hF
    go_enter Tryz.func42, Tryz.ntmps42
    go_wp2_with fail
    refine (via (w0 := w) (by go_grown) (c_in_one 1 100000 n _ _ _ (by go_simp))).mono ?_
    rw [h1]
    rintro e W1 ⟨rfl, hc, hf, hz, hB⟩
    have hb0 := hB
    have hzW1 : w.heap.size ≤ W1.heap.size := hz
    clear hc hf hB hz
    go_wp2_with fail
    refine (via (w0 := W1) (by go_grown) (c_in_one 0 200000 c _ _ _ (by go_simp))).mono ?_
    rw [h2]
    rintro e W2 ⟨rfl, hc, hf, hz, hB⟩
    have hbn : Below w.heap.size w W2 := bthen hb0 hB
    clear hb0
    have hb0 := hbn
    clear hbn
    have hzW2 : W1.heap.size ≤ W2.heap.size := hz
    clear hc hf hB hz
    go_wp2_with fail
    have hps := HP.out.later hb0
    refine (via (w0 := W2) (by go_grown) (c_Search g HE.out env p 501 _ (by omega) hps HR.out)).mono ?_
    rw [HF.out]
    rintro e W3 ⟨rfl, hc, hf, hz, hB⟩
    have hbn : Below w.heap.size w W3 := bthen hb0 hB
    clear hb0
    have hb0 := hbn
    clear hbn
    have hzW3 : W2.heap.size ≤ W3.heap.size := hz
    clear hc hf hB hz
    clear hps
    go_wp2_with fail
    go_ret2
    exact ⟨rfl, by have hbz := hb0.size; go_grown⟩

theorem pred_c_Misses1 (n c : Int) (a b : Nat) (w : World) (hn : 0 ≤ n ∧ n ≤ 1000000) (h1 : w.cell? ⟨a,0,none⟩ = some (.int .i64 n)) (h2 : w.cell? ⟨b,0,none⟩ = some (.int .i64 c)) :
    Pred 43 #[.pointer (some ⟨a,0,none⟩), .pointer (some ⟨b,0,none⟩)] (fun k => 0 ≤ k ∧ k < ((501 : Nat) : Int)) (fun k => decide (lowN k n ≤ c)) w :=
  fun W k hk hW => c_Misses1 k n c _ _ W hn (by omega) (((bcell hW).1 _ _ (cell_lt h1)).trans h1) (((bcell hW).1 _ _ (cell_lt h2)).trans h2)

theorem pred_c_Doubles1 (n c : Int) (a b : Nat) (w : World) (hn : 0 ≤ n ∧ n ≤ 1000000) (h1 : w.cell? ⟨a,0,none⟩ = some (.int .i64 n)) (h2 : w.cell? ⟨b,0,none⟩ = some (.int .i64 c)) :
    Pred 44 #[.pointer (some ⟨a,0,none⟩), .pointer (some ⟨b,0,none⟩)] (fun k => 0 ≤ k ∧ k < ((501 : Nat) : Int)) (fun k => decide (c ≤ highN k n)) w :=
  fun W k hk hW => c_Doubles1 k n c _ _ W hn (by omega) (((bcell hW).1 _ _ (cell_lt h1)).trans h1) (((bcell hW).1 _ _ (cell_lt h2)).trans h2)

/-- Where the number is not valid nothing is asked of the test. -/
theorem c_asked_no (fv : Value) (n c : Int) (w : World) (h1 : inR 1 100000 n = false) :
    Calls Tryz.prog 42 #[.int .i64 n, .int .i64 c, fv] w fun e w' => e = .returned (.tuple #[.int .i64 0, .bool false]) ∧ Below w.heap.size w w' := by
  go_enter Tryz.func42, Tryz.ntmps42
  go_wp2_with fail
  refine (via (w0 := w) (by go_grown) (c_in_one 1 100000 n _ _ _ (by go_simp))).mono ?_
  rw [h1]
  rintro e W1 ⟨rfl, hc, hf, hz, hB⟩
  have hb0 := hB
  have hzW1 : w.heap.size ≤ W1.heap.size := hz
  clear hc hf hB hz
  go_wp2_with fail
  go_ret2
  exact ⟨rfl, by have hbz := hb0.size; go_grown⟩

theorem c_Misses (n c : Int) (w : World) :
    Calls Tryz.prog 19 #[.int .i64 n, .int .i64 c] w fun e w' => e = .returned (.tuple #[.int .i64 (missV n c).1, .bool (missV n c).2]) ∧ Below w.heap.size w w' := by
  have hmf : ∀ (fn : Fn) (first cap : Array Value) (w : World), (Instr.makeFunc fn first cap).run Tryz.prog w = .ok (.func fn first cap) w := fun _ _ _ _ => rfl
  cases h1 : inR 1 100000 n
  · have hv : missV n c = (0, false) := by simp [missV, askedV, okA, h1]
    rw [hv]
    clear hv
    go_enter Tryz.func19, Tryz.ntmps19
    go_wp2_with fail
    refine (via (w0 := w) (by go_grown) (c_asked_no _ n c _ h1)).mono ?_
    rintro e W1 ⟨rfl, hc, hf, hz, hB⟩
    have hb0 := hB
    have hzW1 : w.heap.size ≤ W1.heap.size := hz
    clear hc hf hB hz
    go_wp2_with fail
    go_ret2
    exact ⟨rfl, by have hbz := hb0.size; go_grown⟩
  · have hn := inR_iff.1 h1
    unfold missV
    go_enter Tryz.func19, Tryz.ntmps19
    go_wp2_with fail
    refine (via (w0 := w) (by go_grown) (c_asked 43 (enters_of Tryz.func43 (by kernel_rfl) rfl) _ _ n c _ (pred_c_Misses1 n c _ _ _ (by omega) (by go_simp) (by go_simp)) (fun h => rises_miss (by omega) 501))).mono ?_
    rintro e W1 ⟨rfl, hc, hf, hz, hB⟩
    have hb0 := hB
    have hzW1 : w.heap.size ≤ W1.heap.size := hz
    clear hc hf hB hz
    go_wp2_with fail
    go_ret2
    exact ⟨rfl, by have hbz := hb0.size; go_grown⟩

theorem c_Doubles (n c : Int) (w : World) :
    Calls Tryz.prog 20 #[.int .i64 n, .int .i64 c] w fun e w' => e = .returned (.tuple #[.int .i64 (doubV n c).1, .bool (doubV n c).2]) ∧ Below w.heap.size w w' := by
  have hmf : ∀ (fn : Fn) (first cap : Array Value) (w : World), (Instr.makeFunc fn first cap).run Tryz.prog w = .ok (.func fn first cap) w := fun _ _ _ _ => rfl
  cases h1 : inR 1 100000 n
  · have hv : doubV n c = (0, false) := by simp [doubV, askedV, okA, h1]
    rw [hv]
    clear hv
    go_enter Tryz.func20, Tryz.ntmps20
    go_wp2_with fail
    refine (via (w0 := w) (by go_grown) (c_asked_no _ n c _ h1)).mono ?_
    rintro e W1 ⟨rfl, hc, hf, hz, hB⟩
    have hb0 := hB
    have hzW1 : w.heap.size ≤ W1.heap.size := hz
    clear hc hf hB hz
    go_wp2_with fail
    go_ret2
    exact ⟨rfl, by have hbz := hb0.size; go_grown⟩
  · have hn := inR_iff.1 h1
    unfold doubV
    go_enter Tryz.func20, Tryz.ntmps20
    go_wp2_with fail
    refine (via (w0 := w) (by go_grown) (c_asked 44 (enters_of Tryz.func44 (by kernel_rfl) rfl) _ _ n c _ (pred_c_Doubles1 n c _ _ _ (by omega) (by go_simp) (by go_simp)) (fun h => rises_doub (by omega) 501))).mono ?_
    rintro e W1 ⟨rfl, hc, hf, hz, hB⟩
    have hb0 := hB
    have hzW1 : w.heap.size ≤ W1.heap.size := hz
    clear hc hf hB hz
    go_wp2_with fail
    go_ret2
    exact ⟨rfl, by have hbz := hb0.size; go_grown⟩

end Go.Proofs.YthdenmbfeanioaaGreatDoor
