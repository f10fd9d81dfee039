/- This text proves that a true number fits a count exactly if it lies in the interval that True returns: in plain words, no program in sight; and what the laws' helpers number and in return. -/
import Derived.Test.YtokpjaodchcheaaTrue
namespace Go.Proofs.Ytokpjaodchcheaa
open Go.RowKit Go.Shelf
attribute [local go_sem] Oper.semAt_some

theorem lt_ft {p : Int → Bool} {N n : Nat} (hr : Rises p N) (hn : n < N) : n < ft p N ↔ p n = false := by
  constructor
  · exact ft_no p N n
  · intro h
    by_cases c : n < ft p N
    · exact c
    · have h1 := ft_yes p N (by omega)
      have h2 := hr (ft p N) n (by omega) hn h1
      rw [h] at h2
      cases h2

def inB (x : Iv) (n : Int) : Bool := x.some && decide (x.lo ≤ n) && decide (n ≤ x.hi)

theorem fit_in {m d a b n : Int} (hm : 0 ≤ m ∧ m ≤ 1000) (hd : 0 ≤ d) (hn : 0 ≤ n ∧ n ≤ 100000) : (decide (lowN m n ≤ b) && decide (a ≤ highN d n)) = inB (fitIv m d a b) n := by
  obtain ⟨k, rfl⟩ : ∃ k : Nat, n = k := ⟨n.toNat, by omega⟩
  have h1 := lt_ft (p := fun n => decide (b + 1 ≤ lowN m n)) (N := 100001) (n := k) (rises_low hm _) (by omega)
  have h2 := lt_ft (p := fun n => decide (a ≤ highN d n)) (N := 100001) (n := k) (rises_high hd _) (by omega)
  have e1 : (k < fromL m (b + 1)) ↔ lowN m k ≤ b := by
    unfold fromL
    rw [h1, decide_eq_false_iff_not]
    omega
  have e2 : (k < fromG d a) ↔ ¬ a ≤ highN d k := by
    unfold fromG
    rw [h2, decide_eq_false_iff_not]
  unfold fitIv betw inB
  generalize fromL m (b + 1) = L at *
  generalize fromG d a = G at *
  by_cases c : (L : Int) - 1 < G
  · rw [if_pos c]
    have : ¬ (lowN m k ≤ b ∧ a ≤ highN d k) := by
      rintro ⟨q1, q2⟩
      have r1 := e1.2 q1
      have r2 : ¬ k < G := fun h => e2.1 h q2
      omega
    simp only [Bool.false_and]
    rw [Bool.and_eq_false_iff]
    by_cases q : lowN m k ≤ b
    · exact .inr (decide_eq_false fun h => this ⟨q, h⟩)
    · exact .inl (decide_eq_false q)
  · rw [if_neg c]
    have q1 : decide (lowN m k ≤ b) = decide ((k : Int) ≤ (L : Int) - 1) := by
      rw [decide_eq_decide, ← e1]
      omega
    have q2 : decide (a ≤ highN d k) = decide ((G : Int) ≤ (k : Int)) := by
      rw [decide_eq_decide]
      have : a ≤ highN d k ↔ ¬ k < G := by rw [e2, Classical.not_not]
      rw [this]
      omega
    rw [q1, q2, Bool.true_and, Bool.and_comm]

theorem fit_bounds {m d a b : Int} : ((fitIv m d a b).some = true → 0 ≤ (fitIv m d a b).lo ∧ (fitIv m d a b).lo ≤ (fitIv m d a b).hi ∧ (fitIv m d a b).hi ≤ 100000) ∧ ((fitIv m d a b).some = false → fitIv m d a b = Iv.none) := by
  have h1 := fromL_le m (b + 1)
  unfold fitIv betw
  split
  · exact ⟨fun h => by simp at h, fun _ => rfl⟩
  · refine ⟨fun _ => ⟨?_, ?_, ?_⟩, fun h => by simp at h⟩ <;> dsimp only <;> omega

theorem c_lnumber (n : Int) (w : World) : Calls Try.prog 22 #[.int .i64 n] w fun e w' => e = .returned (.bool (inR 0 100000 n)) ∧ Below w.heap.size w w' := by
  unfold inR
  go_enter Try.func22, Try.ntmps22
  go_wp2
  all_goals (go_ret; exact ⟨ret_bool (by simp_all <;> omega), by go_grown⟩)

theorem c_lin (x : Iv) (n : Int) (w : World) : Calls Try.prog 24 #[x.v, .int .i64 n] w fun e w' => e = .returned (.bool (inB x n)) ∧ Below w.heap.size w w' := by
  obtain ⟨a, b, s⟩ := x
  unfold inB
  go_enter Try.func24, Try.ntmps24
  go_wp2
  all_goals (go_ret; exact ⟨ret_bool (by simp_all <;> omega), by go_grown⟩)
end Go.Proofs.Ytokpjaodchcheaa
