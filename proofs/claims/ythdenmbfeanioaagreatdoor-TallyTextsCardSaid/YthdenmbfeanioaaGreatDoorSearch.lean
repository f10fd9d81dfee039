/- This text proves that sort.Search returns the least number at which a rising test says yes. -/
import Derived.Test.YthdenmbfeanioaaGreatDoorBase
namespace Go.Proofs.YthdenmbfeanioaaGreatDoor
open Go.RowKit

/-- The least number below n at which p holds; n if there is none. -/
def ft (p : Int → Bool) : Nat → Nat
  | 0 => 0
  | n + 1 => if ft p n < n then ft p n else if p n then n else n + 1
theorem ft_le (p : Int → Bool) : ∀ n, ft p n ≤ n
  | 0 => Nat.le_refl _
  | n + 1 => by have := ft_le p n; rw [ft]; split <;> (try split) <;> omega
theorem ft_no (p : Int → Bool) : ∀ (n k : Nat), k < ft p n → p k = false
  | 0, k, h => by rw [ft] at h; omega
  | n + 1, k, h => by
    rw [ft] at h
    have hl := ft_le p n
    by_cases c : ft p n < n
    · rw [if_pos c] at h; exact ft_no p n k h
    · rw [if_neg c] at h
      have e : ft p n = n := by omega
      by_cases c2 : p n = true
      · rw [if_pos c2] at h; exact ft_no p n k (by omega)
      · rw [if_neg c2] at h
        by_cases hk : k = n
        · subst hk; simpa using c2
        · exact ft_no p n k (by omega)
theorem ft_yes (p : Int → Bool) : ∀ n, ft p n < n → p (ft p n) = true
  | 0, h => by omega
  | n + 1, h => by
    rw [ft] at h ⊢
    by_cases c : ft p n < n
    · rw [if_pos c]; exact ft_yes p n c
    · rw [if_neg c] at h ⊢
      by_cases c2 : p n = true
      · rw [if_pos c2]; exact c2
      · rw [if_neg c2] at h; omega
theorem ft_eq (p : Int → Bool) (n k : Nat) (hk : k ≤ n) (h1 : ∀ i : Nat, i < k → p i = false) (h2 : k < n → p k = true) : ft p n = k := by
  have hl := ft_le p n
  rcases Nat.lt_trichotomy (ft p n) k with h | h | h
  · have := ft_yes p n (by omega)
    rw [h1 _ h] at this; cases this
  · exact h
  · have := ft_no p n k h
    rw [h2 (by omega)] at this; cases this

/-- The test rises. -/
def Rises (p : Int → Bool) (n : Nat) : Prop := ∀ i j : Nat, i ≤ j → j < n → p i = true → p j = true

theorem mid_shift (i j : Nat) : ((i : Int) + j) / 2 = ((i + j) / 2 : Nat) := by omega

def SInv (p : Int → Bool) (n i j : Nat) : Prop := (∀ k : Nat, k < i → p k = false) ∧ (∀ k : Nat, j ≤ k → k < n → p k = true)

set_option maxHeartbeats 800000 in
theorem c_Search (g : FuncId) (eg : Ent g) (env : Array Value) (p : Int → Bool) (n : Nat) (w : World) (hn : n ≤ 200000)
    (hp : Pred g env (fun k => 0 ≤ k ∧ k < n) p w) (hr : Rises p n) :
    Calls Tryz.prog 62 #[.int .i64 n, .func (.func g) #[] env] w fun e w' => e = .returned (.int .i64 (ft p n)) ∧ Below w.heap.size w w' := by
  go_enter Tryz.func62, Tryz.ntmps62
  go_wp2
  go_loopw [5, 6] (fun v5 v6 wr => ∃ i j : Nat, i ≤ j ∧ j ≤ n ∧ v5 = .int .i64 i ∧ v6 = .int .i64 j ∧ SInv p n i j ∧ Below w.heap.size w wr) (fun v5 v6 _ => (intOf v6).toNat - (intOf v5).toNat)
  case atStart => exact ⟨0, n, by omega, by omega, rfl, rfl, ⟨fun k h => by omega, fun k h1 h2 => by omega⟩, Below.refl _ _⟩
  case round =>
    obtain ⟨i, j, hij, hj, rfl, rfl, hs, hb⟩ := hrel
    by_cases hlt : i < j
    · go_wp2_with fail
      rw [mid_shift]
      have hm1 : i ≤ (i + j) / 2 := by omega
      have hm2 : (i + j) / 2 < j := by omega
      generalize (i + j) / 2 = m at hm1 hm2
      have hcall := hp wr m ⟨by omega, by omega⟩ hb
      refine hcall.mono ?_
      rintro e w' ⟨rfl, hb'⟩
      cases hq : p m with
      | true =>
        have hs2 : SInv p n i m := ⟨hs.1, fun k h1 h2 => hr m k h1 h2 hq⟩
        go_wp2_with fail
        go_roundw
        case rel => exact ⟨i, m, by omega, by omega, rfl, rfl, hs2, bthen hb hb'⟩
        case measure => simp [intOf]; omega
      | false =>
        have hs1 : ∀ k : Nat, k < m + 1 → p k = false := by
          intro k h1
          cases hk : p k with
          | false => rfl
          | true =>
            have := hr k m (by omega) (by omega) hk
            rw [hq] at this; cases this
        have hs2 : SInv p n (m + 1) j := ⟨hs1, hs.2⟩
        clear hs1
        go_wp2_with fail
        go_roundw
        case rel => exact ⟨m + 1, j, by omega, by omega, by go_num, rfl, hs2, bthen hb hb'⟩
        case measure => simp [intOf]; omega
    · have hf := ft_eq p n i (by omega) hs.1 (fun h => hs.2 i (by omega) h)
      have HF := Lib.hid hf
      clear hf
      have hltz : ¬ (i : Int) < (j : Int) := by omega
      go_wp2
      go_ret
      exact ⟨ret_int (by rw [HF.out]), hb⟩
end Go.Proofs.YthdenmbfeanioaaGreatDoor
