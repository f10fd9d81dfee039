/- This text proves what the checks of package tally and of its reference return. -/
import Derived.Test.YthdenmbfeanioaaGreatDoorBase
namespace Go.Proofs.YthdenmbfeanioaaGreatDoor
open Go.RowKit

def rateB (m d : Int) : Bool := inR 0 500 m && inR 0 500 d
def countB (i d s n wo : Int) : Bool := inR 1 1000000 i && inR 0 100000 d && inR 1 40 s && inR 0 100000 n && inR 0 10000 wo
theorem inR_iff {lo hi n : Int} : inR lo hi n = true ↔ lo ≤ n ∧ n ≤ hi := by simp [inR]
theorem rateB_iff {m d : Int} : rateB m d = true ↔ (0 ≤ m ∧ m ≤ 500) ∧ (0 ≤ d ∧ d ≤ 500) := by simp [rateB, inR_iff]
/-- The error of a check: none, or ErrArg. -/
def errB (b : Bool) : Int := if b then 0 else 1
theorem errB_true : errB true = 0 := rfl
theorem errB_false : errB false = 1 := rfl
theorem errB_dec (p : Prop) [Decidable p] : errB (decide p) = if p then 0 else 1 := by unfold errB; split <;> split <;> simp_all
theorem any_one (lo hi a : Int) : (!([a] : List Int).any (outR lo hi)) = inR lo hi a := by rw [List.any_cons, List.any_nil, Bool.or_false, not_outR]
theorem any_two (lo hi a b : Int) : (!([a, b] : List Int).any (outR lo hi)) = (inR lo hi a && inR lo hi b) := by
  rw [List.any_cons, List.any_cons, List.any_nil, Bool.or_false, Bool.not_or, not_outR, not_outR]

theorem row1 {w : World} {a : Nat} {x : Int} (h : w.cell? ⟨a, 0, none⟩ = some (.int .i64 x)) : Row w a [x] :=
  ⟨cell_lt h, fun i hi => by obtain rfl : i = 0 := by simp at hi; omega
                             simpa using h⟩
theorem row2 {w : World} {a : Nat} {x y : Int} (h : w.cell? ⟨a, 0, none⟩ = some (.int .i64 x)) (k : w.cell? ⟨a, 1, none⟩ = some (.int .i64 y)) : Row w a [x, y] :=
  ⟨cell_lt h, fun i hi => by
    have : i = 0 ∨ i = 1 := by simp at hi; omega
    rcases this with rfl | rfl
    · simpa using h
    · simpa using k⟩

/-- 'in' at one number, at two. -/
theorem c_in_one (lo hi x : Int) (a cap : Nat) (w : World) (h : w.cell? ⟨a, 0, none⟩ = some (.int .i64 x)) :
    Calls Tryz.prog 34 #[.int .i64 lo, .int .i64 hi, .slice (some ⟨a,0,none⟩) 1 cap] w fun e w' => e = .returned (.bool (inR lo hi x)) ∧ Below w.heap.size w w' := by
  have := c_in lo hi [x] a cap w (by simp) (row1 h)
  rw [any_one] at this
  exact this
theorem c_in_two (lo hi x y : Int) (a cap : Nat) (w : World) (h : w.cell? ⟨a, 0, none⟩ = some (.int .i64 x)) (k : w.cell? ⟨a, 1, none⟩ = some (.int .i64 y)) :
    Calls Tryz.prog 34 #[.int .i64 lo, .int .i64 hi, .slice (some ⟨a,0,none⟩) 2 cap] w fun e w' => e = .returned (.bool (inR lo hi x && inR lo hi y)) ∧ Below w.heap.size w w' := by
  have := c_in lo hi [x, y] a cap w (by simp) (row2 h k)
  rw [any_two] at this
  exact this

theorem c_isRate (m d : Int) (w : World) :
    Calls Tryz.prog 33 #[.agg #[.int .i64 m, .int .i64 d]] w fun e w' => e = .returned (.bool (rateB m d)) ∧ Below w.heap.size w w' := by
  unfold rateB
  go_enter Tryz.func33, Tryz.ntmps33
  go_wp2_with fail
  refine (c_in_two 0 500 m d _ _ _ (by go_simp) (by go_simp)).mono ?_
  rintro e w' ⟨rfl, hb'⟩
  go_wp2
  go_ret
  exact ⟨rfl, bthen (by go_grown) hb'⟩

set_option maxHeartbeats 2000000 in
theorem c_isCount (i d s n wo : Int) (w : World) :
    Calls Tryz.prog 24 #[.agg #[.int .i64 i, .int .i64 d, .int .i64 s, .int .i64 n, .int .i64 wo]] w fun e w' => e = .returned (.bool (countB i d s n wo)) ∧ Below w.heap.size w w' := by
  unfold countB
  cases h1 : inR 1 1000000 i
  · go_enter Tryz.func24, Tryz.ntmps24
    go_wp2_with (first | (go_at_call 34; (with_reducible refine (c_in_one 1 1000000 i _ _ _ ?_).mono ?_); (· go_simp); rintro e w1 ⟨rfl, hb1⟩; obtain ⟨hc1, hf1⟩ := bcell hb1; have hB1 : Below w.heap.size w w1 := bthen (by go_grown) hb1; have hz1 : w.heap.size < w1.heap.size := (by have hz0 := hb1.size; simp only [World.size_alloc] at hz0; omega); clear hb1 hf1) | (go_at_call 34; (with_reducible refine (c_in_one 0 100000 d _ _ _ ?_).mono ?_); (· go_simp); rintro e w1 ⟨rfl, hb1⟩; obtain ⟨hc1, hf1⟩ := bcell hb1; have hB1 : Below w.heap.size w w1 := bthen (by go_grown) hb1; have hz1 : w.heap.size < w1.heap.size := (by have hz0 := hb1.size; simp only [World.size_alloc] at hz0; omega); clear hb1 hf1) | (go_at_call 34; (with_reducible refine (c_in_one 1 40 s _ _ _ ?_).mono ?_); (· go_simp); rintro e w1 ⟨rfl, hb1⟩; obtain ⟨hc1, hf1⟩ := bcell hb1; have hB1 : Below w.heap.size w w1 := bthen (by go_grown) hb1; have hz1 : w.heap.size < w1.heap.size := (by have hz0 := hb1.size; simp only [World.size_alloc] at hz0; omega); clear hb1 hf1) | (go_at_call 34; (with_reducible refine (c_in_one 0 100000 n _ _ _ ?_).mono ?_); (· go_simp); rintro e w1 ⟨rfl, hb1⟩; obtain ⟨hc1, hf1⟩ := bcell hb1; have hB1 : Below w.heap.size w w1 := bthen (by go_grown) hb1; have hz1 : w.heap.size < w1.heap.size := (by have hz0 := hb1.size; simp only [World.size_alloc] at hz0; omega); clear hb1 hf1) | (go_at_call 34; (with_reducible refine (c_in_one 0 10000 wo _ _ _ ?_).mono ?_); (· go_simp); rintro e w1 ⟨rfl, hb1⟩; obtain ⟨hc1, hf1⟩ := bcell hb1; have hB1 : Below w.heap.size w w1 := bthen (by go_grown) hb1; have hz1 : w.heap.size < w1.heap.size := (by have hz0 := hb1.size; simp only [World.size_alloc] at hz0; omega); clear hb1 hf1))
    go_ret
    exact ⟨rfl, by assumption⟩
  cases h2 : inR 0 100000 d
  · go_enter Tryz.func24, Tryz.ntmps24
    go_wp2_with (first | (go_at_call 34; (with_reducible refine (c_in_one 1 1000000 i _ _ _ ?_).mono ?_); (· go_simp); rintro e w1 ⟨rfl, hb1⟩; obtain ⟨hc1, hf1⟩ := bcell hb1; have hB1 : Below w.heap.size w w1 := bthen (by go_grown) hb1; have hz1 : w.heap.size < w1.heap.size := (by have hz0 := hb1.size; simp only [World.size_alloc] at hz0; omega); clear hb1 hf1) | (go_at_call 34; (with_reducible refine (c_in_one 0 100000 d _ _ _ ?_).mono ?_); (· go_simp); rintro e w1 ⟨rfl, hb1⟩; obtain ⟨hc1, hf1⟩ := bcell hb1; have hB1 : Below w.heap.size w w1 := bthen (by go_grown) hb1; have hz1 : w.heap.size < w1.heap.size := (by have hz0 := hb1.size; simp only [World.size_alloc] at hz0; omega); clear hb1 hf1) | (go_at_call 34; (with_reducible refine (c_in_one 1 40 s _ _ _ ?_).mono ?_); (· go_simp); rintro e w1 ⟨rfl, hb1⟩; obtain ⟨hc1, hf1⟩ := bcell hb1; have hB1 : Below w.heap.size w w1 := bthen (by go_grown) hb1; have hz1 : w.heap.size < w1.heap.size := (by have hz0 := hb1.size; simp only [World.size_alloc] at hz0; omega); clear hb1 hf1) | (go_at_call 34; (with_reducible refine (c_in_one 0 100000 n _ _ _ ?_).mono ?_); (· go_simp); rintro e w1 ⟨rfl, hb1⟩; obtain ⟨hc1, hf1⟩ := bcell hb1; have hB1 : Below w.heap.size w w1 := bthen (by go_grown) hb1; have hz1 : w.heap.size < w1.heap.size := (by have hz0 := hb1.size; simp only [World.size_alloc] at hz0; omega); clear hb1 hf1) | (go_at_call 34; (with_reducible refine (c_in_one 0 10000 wo _ _ _ ?_).mono ?_); (· go_simp); rintro e w1 ⟨rfl, hb1⟩; obtain ⟨hc1, hf1⟩ := bcell hb1; have hB1 : Below w.heap.size w w1 := bthen (by go_grown) hb1; have hz1 : w.heap.size < w1.heap.size := (by have hz0 := hb1.size; simp only [World.size_alloc] at hz0; omega); clear hb1 hf1))
    go_ret
    exact ⟨rfl, by assumption⟩
  cases h3 : inR 1 40 s
  · go_enter Tryz.func24, Tryz.ntmps24
    go_wp2_with (first | (go_at_call 34; (with_reducible refine (c_in_one 1 1000000 i _ _ _ ?_).mono ?_); (· go_simp); rintro e w1 ⟨rfl, hb1⟩; obtain ⟨hc1, hf1⟩ := bcell hb1; have hB1 : Below w.heap.size w w1 := bthen (by go_grown) hb1; have hz1 : w.heap.size < w1.heap.size := (by have hz0 := hb1.size; simp only [World.size_alloc] at hz0; omega); clear hb1 hf1) | (go_at_call 34; (with_reducible refine (c_in_one 0 100000 d _ _ _ ?_).mono ?_); (· go_simp); rintro e w1 ⟨rfl, hb1⟩; obtain ⟨hc1, hf1⟩ := bcell hb1; have hB1 : Below w.heap.size w w1 := bthen (by go_grown) hb1; have hz1 : w.heap.size < w1.heap.size := (by have hz0 := hb1.size; simp only [World.size_alloc] at hz0; omega); clear hb1 hf1) | (go_at_call 34; (with_reducible refine (c_in_one 1 40 s _ _ _ ?_).mono ?_); (· go_simp); rintro e w1 ⟨rfl, hb1⟩; obtain ⟨hc1, hf1⟩ := bcell hb1; have hB1 : Below w.heap.size w w1 := bthen (by go_grown) hb1; have hz1 : w.heap.size < w1.heap.size := (by have hz0 := hb1.size; simp only [World.size_alloc] at hz0; omega); clear hb1 hf1) | (go_at_call 34; (with_reducible refine (c_in_one 0 100000 n _ _ _ ?_).mono ?_); (· go_simp); rintro e w1 ⟨rfl, hb1⟩; obtain ⟨hc1, hf1⟩ := bcell hb1; have hB1 : Below w.heap.size w w1 := bthen (by go_grown) hb1; have hz1 : w.heap.size < w1.heap.size := (by have hz0 := hb1.size; simp only [World.size_alloc] at hz0; omega); clear hb1 hf1) | (go_at_call 34; (with_reducible refine (c_in_one 0 10000 wo _ _ _ ?_).mono ?_); (· go_simp); rintro e w1 ⟨rfl, hb1⟩; obtain ⟨hc1, hf1⟩ := bcell hb1; have hB1 : Below w.heap.size w w1 := bthen (by go_grown) hb1; have hz1 : w.heap.size < w1.heap.size := (by have hz0 := hb1.size; simp only [World.size_alloc] at hz0; omega); clear hb1 hf1))
    go_ret
    exact ⟨rfl, by assumption⟩
  cases h4 : inR 0 100000 n
  · go_enter Tryz.func24, Tryz.ntmps24
    go_wp2_with (first | (go_at_call 34; (with_reducible refine (c_in_one 1 1000000 i _ _ _ ?_).mono ?_); (· go_simp); rintro e w1 ⟨rfl, hb1⟩; obtain ⟨hc1, hf1⟩ := bcell hb1; have hB1 : Below w.heap.size w w1 := bthen (by go_grown) hb1; have hz1 : w.heap.size < w1.heap.size := (by have hz0 := hb1.size; simp only [World.size_alloc] at hz0; omega); clear hb1 hf1) | (go_at_call 34; (with_reducible refine (c_in_one 0 100000 d _ _ _ ?_).mono ?_); (· go_simp); rintro e w1 ⟨rfl, hb1⟩; obtain ⟨hc1, hf1⟩ := bcell hb1; have hB1 : Below w.heap.size w w1 := bthen (by go_grown) hb1; have hz1 : w.heap.size < w1.heap.size := (by have hz0 := hb1.size; simp only [World.size_alloc] at hz0; omega); clear hb1 hf1) | (go_at_call 34; (with_reducible refine (c_in_one 1 40 s _ _ _ ?_).mono ?_); (· go_simp); rintro e w1 ⟨rfl, hb1⟩; obtain ⟨hc1, hf1⟩ := bcell hb1; have hB1 : Below w.heap.size w w1 := bthen (by go_grown) hb1; have hz1 : w.heap.size < w1.heap.size := (by have hz0 := hb1.size; simp only [World.size_alloc] at hz0; omega); clear hb1 hf1) | (go_at_call 34; (with_reducible refine (c_in_one 0 100000 n _ _ _ ?_).mono ?_); (· go_simp); rintro e w1 ⟨rfl, hb1⟩; obtain ⟨hc1, hf1⟩ := bcell hb1; have hB1 : Below w.heap.size w w1 := bthen (by go_grown) hb1; have hz1 : w.heap.size < w1.heap.size := (by have hz0 := hb1.size; simp only [World.size_alloc] at hz0; omega); clear hb1 hf1) | (go_at_call 34; (with_reducible refine (c_in_one 0 10000 wo _ _ _ ?_).mono ?_); (· go_simp); rintro e w1 ⟨rfl, hb1⟩; obtain ⟨hc1, hf1⟩ := bcell hb1; have hB1 : Below w.heap.size w w1 := bthen (by go_grown) hb1; have hz1 : w.heap.size < w1.heap.size := (by have hz0 := hb1.size; simp only [World.size_alloc] at hz0; omega); clear hb1 hf1))
    go_ret
    exact ⟨rfl, by assumption⟩
  go_enter Tryz.func24, Tryz.ntmps24
  go_wp2_with (first | (go_at_call 34; (with_reducible refine (c_in_one 1 1000000 i _ _ _ ?_).mono ?_); (· go_simp); rintro e w1 ⟨rfl, hb1⟩; obtain ⟨hc1, hf1⟩ := bcell hb1; have hB1 : Below w.heap.size w w1 := bthen (by go_grown) hb1; have hz1 : w.heap.size < w1.heap.size := (by have hz0 := hb1.size; simp only [World.size_alloc] at hz0; omega); clear hb1 hf1) | (go_at_call 34; (with_reducible refine (c_in_one 0 100000 d _ _ _ ?_).mono ?_); (· go_simp); rintro e w1 ⟨rfl, hb1⟩; obtain ⟨hc1, hf1⟩ := bcell hb1; have hB1 : Below w.heap.size w w1 := bthen (by go_grown) hb1; have hz1 : w.heap.size < w1.heap.size := (by have hz0 := hb1.size; simp only [World.size_alloc] at hz0; omega); clear hb1 hf1) | (go_at_call 34; (with_reducible refine (c_in_one 1 40 s _ _ _ ?_).mono ?_); (· go_simp); rintro e w1 ⟨rfl, hb1⟩; obtain ⟨hc1, hf1⟩ := bcell hb1; have hB1 : Below w.heap.size w w1 := bthen (by go_grown) hb1; have hz1 : w.heap.size < w1.heap.size := (by have hz0 := hb1.size; simp only [World.size_alloc] at hz0; omega); clear hb1 hf1) | (go_at_call 34; (with_reducible refine (c_in_one 0 100000 n _ _ _ ?_).mono ?_); (· go_simp); rintro e w1 ⟨rfl, hb1⟩; obtain ⟨hc1, hf1⟩ := bcell hb1; have hB1 : Below w.heap.size w w1 := bthen (by go_grown) hb1; have hz1 : w.heap.size < w1.heap.size := (by have hz0 := hb1.size; simp only [World.size_alloc] at hz0; omega); clear hb1 hf1) | (go_at_call 34; (with_reducible refine (c_in_one 0 10000 wo _ _ _ ?_).mono ?_); (· go_simp); rintro e w1 ⟨rfl, hb1⟩; obtain ⟨hc1, hf1⟩ := bcell hb1; have hB1 : Below w.heap.size w w1 := bthen (by go_grown) hb1; have hz1 : w.heap.size < w1.heap.size := (by have hz0 := hb1.size; simp only [World.size_alloc] at hz0; omega); clear hb1 hf1))
  go_ret
  exact ⟨rfl, by assumption⟩

def recountB (i d k s t n : Int) : Bool := inR 1 1000000 i && (inR 0 100000 d && inR 0 100000 k) && inR 1 40 s && inR 1 100000 t && inR 0 200000 n
set_option maxHeartbeats 2000000 in
theorem c_isRecount (i d k s t n : Int) (w : World) :
    Calls Tryz.prog 30 #[.agg #[.int .i64 i, .int .i64 d, .int .i64 k, .int .i64 s, .int .i64 t, .int .i64 n]] w fun e w' => e = .returned (.bool (recountB i d k s t n)) ∧ Below w.heap.size w w' := by
  unfold recountB
  cases h1 : inR 1 1000000 i
  · go_enter Tryz.func30, Tryz.ntmps30
    go_wp2_with (first | (go_at_call 34; (with_reducible refine (c_in_one 1 1000000 i _ _ _ ?_).mono ?_); (· go_simp); rintro e w1 ⟨rfl, hb1⟩; obtain ⟨hc1, hf1⟩ := bcell hb1; have hB1 : Below w.heap.size w w1 := bthen (by go_grown) hb1; have hz1 : w.heap.size < w1.heap.size := (by have hz0 := hb1.size; simp only [World.size_alloc] at hz0; omega); clear hb1 hf1) | (go_at_call 34; (with_reducible refine (c_in_two 0 100000 d k _ _ _ ?_ ?_).mono ?_); (· go_simp); (· go_simp); rintro e w1 ⟨rfl, hb1⟩; obtain ⟨hc1, hf1⟩ := bcell hb1; have hB1 : Below w.heap.size w w1 := bthen (by go_grown) hb1; have hz1 : w.heap.size < w1.heap.size := (by have hz0 := hb1.size; simp only [World.size_alloc] at hz0; omega); clear hb1 hf1) | (go_at_call 34; (with_reducible refine (c_in_one 1 40 s _ _ _ ?_).mono ?_); (· go_simp); rintro e w1 ⟨rfl, hb1⟩; obtain ⟨hc1, hf1⟩ := bcell hb1; have hB1 : Below w.heap.size w w1 := bthen (by go_grown) hb1; have hz1 : w.heap.size < w1.heap.size := (by have hz0 := hb1.size; simp only [World.size_alloc] at hz0; omega); clear hb1 hf1) | (go_at_call 34; (with_reducible refine (c_in_one 1 100000 t _ _ _ ?_).mono ?_); (· go_simp); rintro e w1 ⟨rfl, hb1⟩; obtain ⟨hc1, hf1⟩ := bcell hb1; have hB1 : Below w.heap.size w w1 := bthen (by go_grown) hb1; have hz1 : w.heap.size < w1.heap.size := (by have hz0 := hb1.size; simp only [World.size_alloc] at hz0; omega); clear hb1 hf1) | (go_at_call 34; (with_reducible refine (c_in_one 0 200000 n _ _ _ ?_).mono ?_); (· go_simp); rintro e w1 ⟨rfl, hb1⟩; obtain ⟨hc1, hf1⟩ := bcell hb1; have hB1 : Below w.heap.size w w1 := bthen (by go_grown) hb1; have hz1 : w.heap.size < w1.heap.size := (by have hz0 := hb1.size; simp only [World.size_alloc] at hz0; omega); clear hb1 hf1))
    go_ret
    exact ⟨rfl, by assumption⟩
  cases h2 : (inR 0 100000 d && inR 0 100000 k)
  · go_enter Tryz.func30, Tryz.ntmps30
    go_wp2_with (first | (go_at_call 34; (with_reducible refine (c_in_one 1 1000000 i _ _ _ ?_).mono ?_); (· go_simp); rintro e w1 ⟨rfl, hb1⟩; obtain ⟨hc1, hf1⟩ := bcell hb1; have hB1 : Below w.heap.size w w1 := bthen (by go_grown) hb1; have hz1 : w.heap.size < w1.heap.size := (by have hz0 := hb1.size; simp only [World.size_alloc] at hz0; omega); clear hb1 hf1) | (go_at_call 34; (with_reducible refine (c_in_two 0 100000 d k _ _ _ ?_ ?_).mono ?_); (· go_simp); (· go_simp); rintro e w1 ⟨rfl, hb1⟩; obtain ⟨hc1, hf1⟩ := bcell hb1; have hB1 : Below w.heap.size w w1 := bthen (by go_grown) hb1; have hz1 : w.heap.size < w1.heap.size := (by have hz0 := hb1.size; simp only [World.size_alloc] at hz0; omega); clear hb1 hf1) | (go_at_call 34; (with_reducible refine (c_in_one 1 40 s _ _ _ ?_).mono ?_); (· go_simp); rintro e w1 ⟨rfl, hb1⟩; obtain ⟨hc1, hf1⟩ := bcell hb1; have hB1 : Below w.heap.size w w1 := bthen (by go_grown) hb1; have hz1 : w.heap.size < w1.heap.size := (by have hz0 := hb1.size; simp only [World.size_alloc] at hz0; omega); clear hb1 hf1) | (go_at_call 34; (with_reducible refine (c_in_one 1 100000 t _ _ _ ?_).mono ?_); (· go_simp); rintro e w1 ⟨rfl, hb1⟩; obtain ⟨hc1, hf1⟩ := bcell hb1; have hB1 : Below w.heap.size w w1 := bthen (by go_grown) hb1; have hz1 : w.heap.size < w1.heap.size := (by have hz0 := hb1.size; simp only [World.size_alloc] at hz0; omega); clear hb1 hf1) | (go_at_call 34; (with_reducible refine (c_in_one 0 200000 n _ _ _ ?_).mono ?_); (· go_simp); rintro e w1 ⟨rfl, hb1⟩; obtain ⟨hc1, hf1⟩ := bcell hb1; have hB1 : Below w.heap.size w w1 := bthen (by go_grown) hb1; have hz1 : w.heap.size < w1.heap.size := (by have hz0 := hb1.size; simp only [World.size_alloc] at hz0; omega); clear hb1 hf1))
    go_ret
    exact ⟨rfl, by assumption⟩
  cases h3 : inR 1 40 s
  · go_enter Tryz.func30, Tryz.ntmps30
    go_wp2_with (first | (go_at_call 34; (with_reducible refine (c_in_one 1 1000000 i _ _ _ ?_).mono ?_); (· go_simp); rintro e w1 ⟨rfl, hb1⟩; obtain ⟨hc1, hf1⟩ := bcell hb1; have hB1 : Below w.heap.size w w1 := bthen (by go_grown) hb1; have hz1 : w.heap.size < w1.heap.size := (by have hz0 := hb1.size; simp only [World.size_alloc] at hz0; omega); clear hb1 hf1) | (go_at_call 34; (with_reducible refine (c_in_two 0 100000 d k _ _ _ ?_ ?_).mono ?_); (· go_simp); (· go_simp); rintro e w1 ⟨rfl, hb1⟩; obtain ⟨hc1, hf1⟩ := bcell hb1; have hB1 : Below w.heap.size w w1 := bthen (by go_grown) hb1; have hz1 : w.heap.size < w1.heap.size := (by have hz0 := hb1.size; simp only [World.size_alloc] at hz0; omega); clear hb1 hf1) | (go_at_call 34; (with_reducible refine (c_in_one 1 40 s _ _ _ ?_).mono ?_); (· go_simp); rintro e w1 ⟨rfl, hb1⟩; obtain ⟨hc1, hf1⟩ := bcell hb1; have hB1 : Below w.heap.size w w1 := bthen (by go_grown) hb1; have hz1 : w.heap.size < w1.heap.size := (by have hz0 := hb1.size; simp only [World.size_alloc] at hz0; omega); clear hb1 hf1) | (go_at_call 34; (with_reducible refine (c_in_one 1 100000 t _ _ _ ?_).mono ?_); (· go_simp); rintro e w1 ⟨rfl, hb1⟩; obtain ⟨hc1, hf1⟩ := bcell hb1; have hB1 : Below w.heap.size w w1 := bthen (by go_grown) hb1; have hz1 : w.heap.size < w1.heap.size := (by have hz0 := hb1.size; simp only [World.size_alloc] at hz0; omega); clear hb1 hf1) | (go_at_call 34; (with_reducible refine (c_in_one 0 200000 n _ _ _ ?_).mono ?_); (· go_simp); rintro e w1 ⟨rfl, hb1⟩; obtain ⟨hc1, hf1⟩ := bcell hb1; have hB1 : Below w.heap.size w w1 := bthen (by go_grown) hb1; have hz1 : w.heap.size < w1.heap.size := (by have hz0 := hb1.size; simp only [World.size_alloc] at hz0; omega); clear hb1 hf1))
    go_ret
    exact ⟨rfl, by assumption⟩
  cases h4 : inR 1 100000 t
  · go_enter Tryz.func30, Tryz.ntmps30
    go_wp2_with (first | (go_at_call 34; (with_reducible refine (c_in_one 1 1000000 i _ _ _ ?_).mono ?_); (· go_simp); rintro e w1 ⟨rfl, hb1⟩; obtain ⟨hc1, hf1⟩ := bcell hb1; have hB1 : Below w.heap.size w w1 := bthen (by go_grown) hb1; have hz1 : w.heap.size < w1.heap.size := (by have hz0 := hb1.size; simp only [World.size_alloc] at hz0; omega); clear hb1 hf1) | (go_at_call 34; (with_reducible refine (c_in_two 0 100000 d k _ _ _ ?_ ?_).mono ?_); (· go_simp); (· go_simp); rintro e w1 ⟨rfl, hb1⟩; obtain ⟨hc1, hf1⟩ := bcell hb1; have hB1 : Below w.heap.size w w1 := bthen (by go_grown) hb1; have hz1 : w.heap.size < w1.heap.size := (by have hz0 := hb1.size; simp only [World.size_alloc] at hz0; omega); clear hb1 hf1) | (go_at_call 34; (with_reducible refine (c_in_one 1 40 s _ _ _ ?_).mono ?_); (· go_simp); rintro e w1 ⟨rfl, hb1⟩; obtain ⟨hc1, hf1⟩ := bcell hb1; have hB1 : Below w.heap.size w w1 := bthen (by go_grown) hb1; have hz1 : w.heap.size < w1.heap.size := (by have hz0 := hb1.size; simp only [World.size_alloc] at hz0; omega); clear hb1 hf1) | (go_at_call 34; (with_reducible refine (c_in_one 1 100000 t _ _ _ ?_).mono ?_); (· go_simp); rintro e w1 ⟨rfl, hb1⟩; obtain ⟨hc1, hf1⟩ := bcell hb1; have hB1 : Below w.heap.size w w1 := bthen (by go_grown) hb1; have hz1 : w.heap.size < w1.heap.size := (by have hz0 := hb1.size; simp only [World.size_alloc] at hz0; omega); clear hb1 hf1) | (go_at_call 34; (with_reducible refine (c_in_one 0 200000 n _ _ _ ?_).mono ?_); (· go_simp); rintro e w1 ⟨rfl, hb1⟩; obtain ⟨hc1, hf1⟩ := bcell hb1; have hB1 : Below w.heap.size w w1 := bthen (by go_grown) hb1; have hz1 : w.heap.size < w1.heap.size := (by have hz0 := hb1.size; simp only [World.size_alloc] at hz0; omega); clear hb1 hf1))
    go_ret
    exact ⟨rfl, by assumption⟩
  go_enter Tryz.func30, Tryz.ntmps30
  go_wp2_with (first | (go_at_call 34; (with_reducible refine (c_in_one 1 1000000 i _ _ _ ?_).mono ?_); (· go_simp); rintro e w1 ⟨rfl, hb1⟩; obtain ⟨hc1, hf1⟩ := bcell hb1; have hB1 : Below w.heap.size w w1 := bthen (by go_grown) hb1; have hz1 : w.heap.size < w1.heap.size := (by have hz0 := hb1.size; simp only [World.size_alloc] at hz0; omega); clear hb1 hf1) | (go_at_call 34; (with_reducible refine (c_in_two 0 100000 d k _ _ _ ?_ ?_).mono ?_); (· go_simp); (· go_simp); rintro e w1 ⟨rfl, hb1⟩; obtain ⟨hc1, hf1⟩ := bcell hb1; have hB1 : Below w.heap.size w w1 := bthen (by go_grown) hb1; have hz1 : w.heap.size < w1.heap.size := (by have hz0 := hb1.size; simp only [World.size_alloc] at hz0; omega); clear hb1 hf1) | (go_at_call 34; (with_reducible refine (c_in_one 1 40 s _ _ _ ?_).mono ?_); (· go_simp); rintro e w1 ⟨rfl, hb1⟩; obtain ⟨hc1, hf1⟩ := bcell hb1; have hB1 : Below w.heap.size w w1 := bthen (by go_grown) hb1; have hz1 : w.heap.size < w1.heap.size := (by have hz0 := hb1.size; simp only [World.size_alloc] at hz0; omega); clear hb1 hf1) | (go_at_call 34; (with_reducible refine (c_in_one 1 100000 t _ _ _ ?_).mono ?_); (· go_simp); rintro e w1 ⟨rfl, hb1⟩; obtain ⟨hc1, hf1⟩ := bcell hb1; have hB1 : Below w.heap.size w w1 := bthen (by go_grown) hb1; have hz1 : w.heap.size < w1.heap.size := (by have hz0 := hb1.size; simp only [World.size_alloc] at hz0; omega); clear hb1 hf1) | (go_at_call 34; (with_reducible refine (c_in_one 0 200000 n _ _ _ ?_).mono ?_); (· go_simp); rintro e w1 ⟨rfl, hb1⟩; obtain ⟨hc1, hf1⟩ := bcell hb1; have hB1 : Below w.heap.size w w1 := bthen (by go_grown) hb1; have hz1 : w.heap.size < w1.heap.size := (by have hz0 := hb1.size; simp only [World.size_alloc] at hz0; omega); clear hb1 hf1))
  go_ret
  exact ⟨rfl, by assumption⟩

theorem c_right (b : Bool) (w : World) : Calls Tryz.prog 32 #[.bool b] w fun e w' => e = .returned (.int .i64 (errB b)) ∧ w = w' := by
  cases b
  · go_enter Tryz.func32, Tryz.ntmps32
    go_wp2
    go_ret
    exact ⟨rfl, rfl⟩
  · go_enter Tryz.func32, Tryz.ntmps32
    go_wp2
    go_ret
    exact ⟨rfl, rfl⟩

theorem c_CheckCount (i d s n wo : Int) (w : World) :
    Calls Tryz.prog 14 #[.agg #[.int .i64 i, .int .i64 d, .int .i64 s, .int .i64 n, .int .i64 wo]] w fun e w' => e = .returned (.int .i64 (errB (countB i d s n wo))) ∧ Below w.heap.size w w' := by
  go_enter Tryz.func14, Tryz.ntmps14
  go_wp2_with fail
  refine (c_isCount i d s n wo _).mono ?_
  rintro e w' ⟨rfl, hb'⟩
  go_wp2_with fail
  refine (c_right _ _).mono ?_
  rintro e w2 ⟨rfl, rfl⟩
  go_wp2_with fail
  all_goals (go_ret; exact ⟨rfl, bthen (by go_grown) hb'⟩)
end Go.Proofs.YthdenmbfeanioaaGreatDoor
