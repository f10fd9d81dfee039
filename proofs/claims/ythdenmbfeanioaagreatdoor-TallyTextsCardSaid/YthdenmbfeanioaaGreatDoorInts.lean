/- This text proves what SameInts of the reference returns, for every two lists of integers. -/
import Derived.Test.YthdenmbfeanioaaGreatDoorRegion
namespace Go.Proofs.YthdenmbfeanioaaGreatDoor
open Go.RowKit Go.Shelf
attribute [local go_sem] Oper.semAt_some

def it (l : List Int) (k : Nat) : Int := l[k]?.getD 0
/-- A slice's cells: a list of integers. -/
def Ints (w : World) (a : Option Addr) (l : List Int) : Prop := l.length ≤ 1000000000000 ∧ (l ≠ [] → ∃ b o, a = some ⟨b, o, none⟩ ∧ ∀ k, k < l.length → w.cell? ⟨b, o + k, none⟩ = some (.int .i64 (it l k)))
theorem Ints.later {w w1 : World} {a : Option Addr} {l : List Int} (h : Ints w a l) (hb : Below w.heap.size w w1) : Ints w1 a l :=
  ⟨h.1, fun hl => by obtain ⟨b, o, ha, hk⟩ := h.2 hl; exact ⟨b, o, ha, fun k hk' => ((bcell hb).1 _ _ (cell_lt (hk k hk'))).trans (hk k hk')⟩⟩
theorem take_it {l : List Int} {k : Nat} (hk : k < l.length) : l.take (k + 1) = l.take k ++ [it l k] := by
  rw [List.take_succ_eq_append_getElem hk]; simp [it, hk]

set_option maxHeartbeats 2000000 in
theorem c_SameInts (l m : List Int) (a b : Option Addr) (ca cb : Nat) (w : World) (hl : Ints w a l) (hm : Ints w b m) :
    Calls Tryz.prog 23 #[.slice a l.length ca, .slice b m.length cb] w fun e w' => e = .returned (.bool (decide (l = m))) ∧ Below w.heap.size w w' := by
  have hl1 := hl.1
  have hm1 := hm.1
  have HL := Lib.hid hl
  have HM := Lib.hid hm
  clear hl hm
  by_cases hn : l.length = m.length
  · have HN := Lib.hid hn
    have hn' : (l.length : Int) = m.length := by omega
    clear hn
    go_enter Tryz.func23, Tryz.ntmps23
    go_wp2
    go_loopw [5] (fun v5 wr => ∃ k : Nat, k ≤ l.length ∧ v5 = .int .i64 k ∧ l.take k = m.take k ∧ Below w.heap.size w wr) (fun v5 _ => l.length - (intOf v5).toNat)
    case atStart => exact ⟨0, by omega, rfl, rfl, Below.refl _ _⟩
    case round =>
      obtain ⟨k, hk, rfl, ht, hb0⟩ := hrel
      have HT := Lib.hid ht
      clear ht
      by_cases hlt : k < l.length
      · obtain ⟨bl, ol, rfl, hat⟩ := (HL.out.later hb0).2 (by intro e; rw [e] at hlt; simp at hlt)
        obtain ⟨bm, om, rfl, hbt⟩ := (HM.out.later hb0).2 (by intro e; have := HN.out; rw [e] at this; simp at this; rw [this] at hlt; simp at hlt)
        have h1 := hat k hlt
        have h2 := hbt k (by have := HN.out; omega)
        clear hat hbt
        have hlm : k < m.length := by have := HN.out; omega
        have hst : (l.take (k + 1) = m.take (k + 1)) ↔ it l k = it m k := by
          rw [take_it hlt, take_it hlm, HT.out]; simp
        have hne : ¬ it l k = it m k → decide (l = m) = false := fun h => by simp; intro e; exact h (by rw [e])
        generalize it l k = x at h1 hst hne
        generalize it m k = y at h2 hst hne
        have HS := Lib.hid hst
        have HNE := Lib.hid hne
        clear hst hne
        go_wp2_with fail
        have k1 := later_cell h1
        have k2 := later_cell h2
        clear h1 h2
        refine wp_region_later wr (by kernel_rfl) (by kernel_rfl) (Below.refl _ _) ?_
        repeat (go_big_quiet_step (fail))
        refine wpQuiet_nil ?_
        rintro ⟨W2, hB⟩
        dsimp only
        have hbn : Below w.heap.size w W2 := bthen hb0 hB
        clear k1 k2 hB hb0
        by_cases hxy : x = y
        · have hd : (x != y) = false := by simpa using hxy
          have HXY := Lib.hid hxy
          clear hxy
          go_wp2
          go_roundw
          case rel => exact ⟨k + 1, by omega, by go_num, HS.out.2 HXY.out, hbn⟩
          case measure => simp [intOf]; omega
        · have hd : (x != y) = true := by simpa using hxy
          have HXY := Lib.hid (HNE.out hxy)
          clear hxy
          go_wp2
          go_ret
          exact ⟨by rw [HXY.out]; rfl, hbn⟩
      · obtain rfl : k = l.length := by omega
        have e1 : decide (l = m) = true := by
          have h1 := HT.out
          rw [List.take_length, List.take_of_length_le (by have := HN.out; omega)] at h1
          simpa using h1
        have E1 := Lib.hid e1
        clear e1
        go_wp2
        go_ret
        exact ⟨by rw [E1.out]; rfl, hb0⟩
  · have e1 : decide (l = m) = false := by simp; intro e; exact hn (by rw [e])
    have hn' : ¬ (l.length : Int) = m.length := by omega
    have E1 := Lib.hid e1
    clear e1 hn
    go_enter Tryz.func23, Tryz.ntmps23
    go_wp2
    go_ret
    exact ⟨by rw [E1.out]; rfl, by go_grown⟩
end Go.Proofs.YthdenmbfeanioaaGreatDoor
