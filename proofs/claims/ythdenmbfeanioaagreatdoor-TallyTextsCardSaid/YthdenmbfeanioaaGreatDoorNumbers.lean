/- This text proves what numbers of the reference of package tally returns. -/
import Derived.Test.YthdenmbfeanioaaGreatDoorLine
namespace Go.Proofs.YthdenmbfeanioaaGreatDoor
open Go.RowKit Go.Shelf
attribute [local go_sem] Oper.semAt_some

/-- What a call returns that makes a list of integers. -/
def GivesL (l : List Int) (w : World) (e : Ending) (w' : World) : Prop := (∃ b c, e = .returned (.slice b l.length c) ∧ Ints w' b l) ∧ Below w.heap.size w w'
theorem int_info : (Tryz.prog.info? 3).map (fun i => (i.zero, i.size, i.bytes)) = some (some (.int .i64 0), 1, 8) := by kernel_rfl
theorem drop_at (s : ByteArray) (k : Nat) (h : k < s.size) : s.data.toList.drop k = s[k] :: s.data.toList.drop (k + 1) := by
  rw [List.drop_eq_getElem_cons (by simpa using h)]
  rfl
/-- Between two rounds. -/
def NumR (s : ByteArray) (R : List Int) (k m : Nat) (n : Int) (out : List Int) : Prop :=
  out.length ≤ k ∧ 0 ≤ n ∧ n < 10 ^ m ∧ m ≤ 10 ∧ (k ≤ s.size ∧ numF (s.data.toList.drop k) n m out = R ∨ k = s.size + 1 ∧ out = R)
theorem NumR.small {s : ByteArray} {R : List Int} {k m : Nat} {n : Int} {out : List Int} (h : NumR s R k m n out) (hm : m ≤ 9) : n ≤ 999999999 := by
  have h1 := h.2.2.1
  have h2 : 10 ^ m ≤ 10 ^ 9 := Nat.pow_le_pow_right (by decide) hm
  have h3 : ((10 ^ m : Nat) : Int) = (10 : Int) ^ m := by simp
  omega
/-- Behind the last byte, or at a blank: no number. -/
theorem NumR.bad {s : ByteArray} {R : List Int} {k m : Nat} {n : Int} {out : List Int} (h : NumR s R k m n out) (hk : k ≤ s.size) (hb : k = s.size ∨ ∃ h : k < s.size, (s[k].toNat : Int) = 32) (hm : (m : Int) < 1 ∨ 9 < (m : Int)) : R = [] := by
  obtain ⟨_, _, _, _, ⟨_, hR⟩ | ⟨h1, _⟩⟩ := h
  · rcases hb with rfl | ⟨hlt, hc⟩
    · rw [List.drop_of_length_le (by simp), numF, if_pos hm] at hR
      exact hR.symm
    · rw [drop_at s k hlt, numF, if_pos (by omega), if_pos hm] at hR
      exact hR.symm
  · omega
theorem NumR.good {s : ByteArray} {R : List Int} {k m : Nat} {n : Int} {out : List Int} (h : NumR s R k m n out) (hk : k ≤ s.size) (hb : k = s.size ∨ ∃ h : k < s.size, (s[k].toNat : Int) = 32) (hm : ¬ (m : Int) < 1) (hm2 : ¬ 9 < (m : Int)) : NumR s R (k + 1) 0 0 (out ++ [n]) := by
  obtain ⟨ho, _, _, _, ⟨_, hR⟩ | ⟨h1, _⟩⟩ := h
  · refine ⟨by simp; omega, by omega, by decide, by omega, ?_⟩
    rcases hb with rfl | ⟨hlt, hc⟩
    · rw [List.drop_of_length_le (by simp), numF, if_neg (by omega)] at hR
      exact .inr ⟨rfl, hR⟩
    · rw [drop_at s k hlt, numF, if_pos (by omega), if_neg (by omega)] at hR
      exact .inl ⟨by omega, hR⟩
  · omega
theorem NumR.none {s : ByteArray} {R : List Int} {k m : Nat} {n : Int} {out : List Int} (h : NumR s R k m n out) (hlt : k < s.size) (hc : ¬ (s[k].toNat : Int) = 32) (hm : (s[k].toNat : Int) < 48 ∨ 57 < (s[k].toNat : Int) ∨ 9 < (m : Int)) : R = [] := by
  obtain ⟨_, _, _, _, ⟨_, hR⟩ | ⟨h1, _⟩⟩ := h
  · rw [drop_at s k hlt, numF, if_neg (by omega), if_pos (by omega)] at hR
    exact hR.symm
  · omega
theorem NumR.next {s : ByteArray} {R : List Int} {k m : Nat} {n : Int} {out : List Int} (h : NumR s R k m n out) (hlt : k < s.size) (_hc : ¬ (s[k].toNat : Int) = 32) (h1 : ¬ (s[k].toNat : Int) < 48) (h2 : ¬ 57 < (s[k].toNat : Int)) (h3 : ¬ 9 < (m : Int)) : NumR s R (k + 1) (m + 1) (10 * n + s[k].toNat - 48) out := by
  obtain ⟨ho, hn, hn2, _, ⟨_, hR⟩ | ⟨h1, _⟩⟩ := h
  · rw [drop_at s k hlt, numF, if_neg (by omega), if_neg (by omega)] at hR
    refine ⟨by omega, by omega, ?_, by omega, .inl ⟨by omega, hR⟩⟩
    rw [Int.pow_succ]
    omega
  · omega

set_option maxRecDepth 100000 in
set_option maxHeartbeats 4000000 in
theorem c_numbers (s : ByteArray) (w : World) (hs : s.size ≤ 1000) :
    Calls Tryz.prog 29 #[.string s] w (GivesL (numbersV s.data.toList) w) := by
  obtain ⟨R, hR⟩ : ∃ R, numbersV s.data.toList = R := ⟨_, rfl⟩
  have h0 : NumR s R 0 0 0 [] := ⟨by simp, by omega, by decide, by omega, .inl ⟨by omega, hR⟩⟩
  rw [hR]
  have H0 := Lib.hid h0
  clear h0 hR
  obtain ⟨i0, hi0, hz0, hz1, hz2⟩ := info_parts int_info
  go_enter Tryz.func29, Tryz.ntmps29
  go_wp2
  go_loopw [3, 4, 5, 6] (fun v3 v4 v5 v6 wr => ∃ (k m : Nat) (n : Int) (out : List Int), v6 = .int .i64 k ∧ v5 = .int .i64 m ∧ v4 = .int .i64 n ∧ NumR s R k m n out ∧ wr.ownsRow w.heap.size 3 1 v3 out.length (cellsL intC out) ∧ Below w.heap.size w wr) (fun _ _ _ v6 _ => s.size + 1 - (intOf v6).toNat)
  case atStart => exact ⟨0, 0, 0, [], rfl, rfl, rfl, H0.out, own_nil _ _ _ _, Below.refl _ _⟩
  case round =>
    obtain ⟨k, m, n, out, rfl, rfl, rfl, hr, hown, hb⟩ := hrel
    have HR := Lib.hid hr
    have hk1 : k ≤ s.size + 1 := by
      rcases hr.2.2.2.2 with ⟨h, _⟩ | ⟨h, _⟩ <;> omega
    have hol := hr.1
    have hn0 := hr.2.1
    have hm10 := hr.2.2.2.1
    have hm10' : (m : Int) ≤ 10 := by omega
    have hm0' : (0 : Int) ≤ (m : Int) := by omega
    have HO := Lib.hid hown
    clear hr hown
    by_cases hk : k ≤ s.size
    · have hk' : (k : Int) ≤ (s.size : Int) := by omega
      by_cases hat : k = s.size ∨ ∃ h : k < s.size, (s[k].toNat : Int) = 32
      · have HAT := Lib.hid hat
        by_cases hm : (m : Int) < 1 ∨ 9 < (m : Int)
        · have hRe := Lib.hid (HR.out.bad hk hat hm)
          rcases hat with he | ⟨hlt, hc⟩
          · have heq : ((k : Int) == (s.size : Int)) = true := by rw [he]; simp
            clear he HAT
            rcases hm with hm | hm
            · go_wp2
              go_ret
              exact ⟨⟨none, 0, by rw [hRe.out]; rfl, by rw [hRe.out]; exact ints_nil _ _⟩, hb⟩
            · have hm1 : ¬ (m : Int) < 1 := by omega
              go_wp2
              go_ret
              exact ⟨⟨none, 0, by rw [hRe.out]; rfl, by rw [hRe.out]; exact ints_nil _ _⟩, hb⟩
          · have heq : ((k : Int) == (s.size : Int)) = false := by simp; omega
            have hcc : ((s[k].toNat : Int) == 32) = true := by rw [hc]; rfl
            clear hc HAT
            rcases hm with hm | hm
            · go_wp2
              go_ret
              exact ⟨⟨none, 0, by rw [hRe.out]; rfl, by rw [hRe.out]; exact ints_nil _ _⟩, hb⟩
            · have hm1 : ¬ (m : Int) < 1 := by omega
              go_wp2
              go_ret
              exact ⟨⟨none, 0, by rw [hRe.out]; rfl, by rw [hRe.out]; exact ints_nil _ _⟩, hb⟩
        · have hm1 : ¬ (m : Int) < 1 := by omega
          have hm2 : ¬ 9 < (m : Int) := by omega
          have HN := Lib.hid (HR.out.good hk hat hm1 hm2)
          clear hm
          have fin : ∀ (v' : Value) (w1 : World), w1.ownsRow w.heap.size 3 1 v' (out.length + 1) (cellsL intC out ++ [.int .i64 n]) → w1.ownsRow w.heap.size 3 1 v' (out ++ [n]).length (cellsL intC (out ++ [n])) := by
            intro v' w1 h
            rw [cellsL_snoc, List.length_append]
            exact h
          have FIN := Lib.hid fin
          clear fin
          have HH := HO.out
          rcases hat with he | ⟨hlt, hc⟩
          · have heq : ((k : Int) == (s.size : Int)) = true := by rw [he]; simp
            clear he HAT
            go_wp2_with (at_builtin; refine stuckHere ?_)
            refine unHid ?_
            refine wpList_append_own_at _ rfl _ _ 52 rfl w.heap.size 3 i0 _ 1 8 Tryz.underlying52 hi0 hz0 hz1 hz2 rfl (by decide) _ _ _ rfl (HH.alloc _) ⟨wr.heap.size, 0, none⟩ 1 1 [.int .i64 n] rfl rfl (cells_new _ #[_] _) (by simp [Value.oneCell']) (by unfold maxLen; omega) (by omega) (by have := hb.size; simp; omega) ?_
            intro v' w1 hown' hgrow _ hat
            have hown2 := Lib.hid (FIN.out _ _ hown')
            have hlt' := HH.lt
            have hbb : Below w.heap.size w w1 := by
              have h1 : Below w.heap.size w (wr.alloc (Obj.cells #[.int .i64 n] 3)) := hb.alloc hb.size _
              exact h1.trans ((kept_of_grown hgrow).below (by have := hb.size; simp; omega) (fun j hj => (hlt' j hj).1))
            have HB := Lib.hid hbb
            clear hown' hgrow hat hlt' hbb HH
            go_wp2
            go_roundw
            case rel => exact ⟨k + 1, 0, 0, out ++ [n], by go_num, rfl, rfl, HN.out, hown2.out, HB.out⟩
            case measure => simp [intOf]; omega
          · have heq : ((k : Int) == (s.size : Int)) = false := by simp; omega
            have hcc : ((s[k].toNat : Int) == 32) = true := by rw [hc]; rfl
            clear hc HAT
            go_wp2_with (at_builtin; refine stuckHere ?_)
            refine unHid ?_
            refine wpList_append_own_at _ rfl _ _ 52 rfl w.heap.size 3 i0 _ 1 8 Tryz.underlying52 hi0 hz0 hz1 hz2 rfl (by decide) _ _ _ rfl (HH.alloc _) ⟨wr.heap.size, 0, none⟩ 1 1 [.int .i64 n] rfl rfl (cells_new _ #[_] _) (by simp [Value.oneCell']) (by unfold maxLen; omega) (by omega) (by have := hb.size; simp; omega) ?_
            intro v' w1 hown' hgrow _ hat
            have hown2 := Lib.hid (FIN.out _ _ hown')
            have hlt' := HH.lt
            have hbb : Below w.heap.size w w1 := by
              have h1 : Below w.heap.size w (wr.alloc (Obj.cells #[.int .i64 n] 3)) := hb.alloc hb.size _
              exact h1.trans ((kept_of_grown hgrow).below (by have := hb.size; simp; omega) (fun j hj => (hlt' j hj).1))
            have HB := Lib.hid hbb
            clear hown' hgrow hat hlt' hbb HH
            go_wp2
            go_roundw
            case rel => exact ⟨k + 1, 0, 0, out ++ [n], by go_num, rfl, rfl, HN.out, hown2.out, HB.out⟩
            case measure => simp [intOf]; omega
      · have hlt : k < s.size := by
          rcases Nat.lt_or_ge k s.size with h | h
          · exact h
          · exact (hat (.inl (by omega))).elim
        have hc : ¬ (s[k].toNat : Int) = 32 := fun h => hat (.inr ⟨hlt, h⟩)
        have heq : ((k : Int) == (s.size : Int)) = false := by simp; omega
        have hcc : ((s[k].toNat : Int) == 32) = false := by simpa using hc
        have HC := Lib.hid hc
        clear hat hc
        by_cases h1 : (s[k].toNat : Int) < 48
        · have hRe := Lib.hid (HR.out.none hlt HC.out (.inl h1))
          go_wp2
          go_ret
          exact ⟨⟨none, 0, by rw [hRe.out]; rfl, by rw [hRe.out]; exact ints_nil _ _⟩, hb⟩
        · by_cases h2 : 57 < (s[k].toNat : Int)
          · have hRe := Lib.hid (HR.out.none hlt HC.out (.inr (.inl h2)))
            go_wp2
            go_ret
            exact ⟨⟨none, 0, by rw [hRe.out]; rfl, by rw [hRe.out]; exact ints_nil _ _⟩, hb⟩
          · by_cases h3 : 9 < (m : Int)
            · have hRe := Lib.hid (HR.out.none hlt HC.out (.inr (.inr h3)))
              go_wp2
              go_ret
              exact ⟨⟨none, 0, by rw [hRe.out]; rfl, by rw [hRe.out]; exact ints_nil _ _⟩, hb⟩
            · have HN := Lib.hid (HR.out.next hlt HC.out h1 h2 h3)
              have hn9 := HR.out.small (by omega)
              go_wp2
              go_roundw
              case rel => exact ⟨k + 1, m + 1, _, out, by go_num, by go_num, rfl, HN.out, HO.out, hb⟩
              case measure => simp [intOf]; omega
    · have hk' : ¬ (k : Int) ≤ (s.size : Int) := by omega
      have hRo : R = out := by
        rcases HR.out.2.2.2.2 with ⟨h, _⟩ | ⟨_, h⟩
        · omega
        · exact h.symm
      subst hRo
      have hown := HO.out
      obtain ⟨b, c, rfl, hr, hnew⟩ := int_own hown
      have HRR := Lib.hid (hr (by omega))
      clear hr hnew hown HO
      go_wp2
      go_ret
      exact ⟨⟨b, c, rfl, HRR.out⟩, hb⟩
end Go.Proofs.YthdenmbfeanioaaGreatDoor
