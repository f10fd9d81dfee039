/- This text proves what line and numbers of the reference of package tally return. -/
import Derived.Test.YthdenmbfeanioaaGreatDoorTold
namespace Go.Proofs.YthdenmbfeanioaaGreatDoor
open Go.RowKit Go.Shelf
attribute [local go_sem] Oper.semAt_some

theorem itoaB_nat (u : Nat) : itoaB (u : Int) = decB u := by
  unfold itoaB decB
  rw [Lib.itoa_nonneg]
theorem c_digitsI (x : Int) (w : World) (h0 : 0 ≤ x) (h1 : x ≤ 9223372036854775807) :
    Calls Tryz.prog 51 #[.int .i64 x] w fun e w' => e = .returned (.string (itoaB x)) ∧ Below w.heap.size w w' := by
  obtain ⟨u, rfl⟩ : ∃ u : Nat, x = u := ⟨x.toNat, by omega⟩
  rw [itoaB_nat]
  exact c_digits u w (by omega)
theorem itoaB_size {x : Int} (h0 : 0 ≤ x) (h1 : x ≤ 9223372036854775807) : (itoaB x).size ≤ 19 := by
  obtain ⟨u, rfl⟩ : ∃ u : Nat, x = u := ⟨x.toNat, by omega⟩
  rw [itoaB_nat]
  exact decB_size (by omega)
theorem toldB_size {l : List Int} (h : All64 l) : (toldB l).size ≤ 21 * l.length := by
  have := toldV_len l fun n hn => h n hn
  have e : (toldB l).size = (toldV l).length := by simp [toldB, ByteArray.size]
  omega
theorem toldB_nil : toldB [] = ⟨#[]⟩ := by simp [toldB, toldV, Lib.join, List.intercalate]
theorem toldB_one (x : Int) : toldB [x] = itoaB x := by
  have := toldV_snoc [] x
  rw [if_pos rfl] at this
  unfold toldB itoaB
  rw [← this]
  rfl
theorem toldB_snoc {l : List Int} (x : Int) (h : l ≠ []) : toldB l ++ ⟨#[32]⟩ ++ itoaB x = toldB (l ++ [x]) := by
  unfold toldB itoaB
  rw [toldV_snoc, if_neg h]
  apply ByteArray.ext
  simp
theorem All64.take {l : List Int} (h : All64 l) (k : Nat) : All64 (l.take k) := fun n hn => h n (List.mem_of_mem_take hn)

set_option maxRecDepth 100000 in
set_option maxHeartbeats 2000000 in
theorem c_line (l : List Int) (a : Option Addr) (cap : Nat) (w : World) (hl : Ints w a l) (hn : ∀ n ∈ l, 0 ≤ n ∧ n ≤ 9223372036854775807) (hlen : l.length ≤ 1000) :
    Calls Tryz.prog 27 #[.slice a l.length cap] w fun e w' => e = .returned (.string (toldB l)) ∧ Below w.heap.size w w' := by
  have HL := Lib.hid hl
  have HN := Lib.hid hn
  have h64 : All64 l := fun n h => ⟨by have := hn n h; omega, (hn n h).2⟩
  have H64 := Lib.hid h64
  have H0 := Lib.hid toldB_nil
  clear hl hn h64
  go_enter Tryz.func27, Tryz.ntmps27
  go_wp2
  go_loopw [3, 4] (fun v3 v4 wr => ∃ k : Nat, k ≤ l.length ∧ v4 = .int .i64 k ∧ v3 = .string (toldB (l.take k)) ∧ Below w.heap.size w wr) (fun _ v4 _ => l.length - (intOf v4).toNat)
  case atStart => exact ⟨0, by omega, rfl, by rw [List.take_zero, H0.out], Below.refl _ _⟩
  case round =>
    obtain ⟨k, hk, rfl, rfl, hb⟩ := hrel
    by_cases hlt : k < l.length
    · obtain ⟨b, o, rfl, hat⟩ := (HL.out.later hb).2 (by intro e; rw [e] at hlt; simp at hlt)
      have hx := hat k hlt
      clear hat
      have ht := take_it hlt
      have hn := HN.out _ (it_mem hlt)
      have hs := toldB_size (H64.out.take k)
      have hs1 := itoaB_size hn.1 hn.2
      have hl2 : (l.take k).length ≤ k := List.length_take_le _ _
      have hne : 0 < k → l.take k ≠ [] := fun h e => by
        have := congrArg List.length e
        rw [List.length_take] at this
        simp only [List.length_nil] at this
        omega
      have HT := Lib.hid ht
      have HNX := Lib.hid hn
      have HNE := Lib.hid hne
      generalize it l k = x at *
      have hidx : ¬ ((k : Int) < 0) := by omega
      have hidx2 : (k : Int) < (l.length : Int) := by omega
      clear hn ht hne
      have hsk : (toldB (l.take k)).size ≤ 21000 := by omega
      have hsx : ((itoaB x).size : Int) ≤ 8388608 := by omega
      clear hs hs1 hl2
      by_cases h0 : k = 0
      · subst h0
        rw [Nat.add_zero] at hx
        have e1 : itoaB x = toldB (l.take (0 + 1)) := by
          rw [HT.out, List.take_zero]
          exact (toldB_one x).symm
        have e0 : toldB (l.take 0) = ⟨#[]⟩ := by rw [List.take_zero]; exact H0.out
        have E1 := Lib.hid e1
        rw [e0]
        clear e1 e0 hsk
        have hsz : (((⟨#[]⟩ : ByteArray)).size : Int) ≤ 8388608 := by decide
        have hap : (⟨#[]⟩ : ByteArray) ++ itoaB x = itoaB x := by
          apply ByteArray.ext
          simp
        have HAP := Lib.hid hap
        clear hap
        go_wp2_with fail
        refine (via (w0 := wr) (by go_grown) (c_digitsI x _ HNX.out.1 HNX.out.2)).mono ?_
        rintro e W1 ⟨rfl, hc, hf, hz, hB⟩
        have hbn := bthen hb hB
        clear hc hf hB hb
        go_wp2
        go_roundw
        case rel => exact ⟨0 + 1, by omega, by go_num, by rw [← E1.out]; first | rfl | rw [HAP.out], hbn⟩
        case measure => simp [intOf]; omega
      · have h1 : (0 : Int) < (k : Int) := by omega
        have e1 := toldB_snoc x (HNE.out (by omega))
        rw [← HT.out] at e1
        have hsa : ((toldB (l.take k)).size : Int) ≤ 8388608 := by omega
        have hsb : (((toldB (l.take k)) ++ (⟨#[32]⟩ : ByteArray)).size : Int) ≤ 8388608 := by
          rw [ByteArray.size_append]
          have : ((⟨#[32]⟩ : ByteArray)).size = 1 := rfl
          omega
        have hs32 : (((⟨#[32]⟩ : ByteArray)).size : Int) ≤ 8388608 := by decide
        have E1 := Lib.hid e1
        clear e1 hsk
        generalize toldB (l.take k) = T at *
        go_wp2_with fail
        refine (via (w0 := wr) (by go_grown) (c_digitsI x _ HNX.out.1 HNX.out.2)).mono ?_
        rintro e W1 ⟨rfl, hc, hf, hz, hB⟩
        have hbn := bthen hb hB
        clear hc hf hB hb
        go_wp2
        go_roundw
        case rel => exact ⟨k + 1, by omega, by go_num, by rw [← E1.out], hbn⟩
        case measure => simp [intOf]; omega
    · obtain rfl : k = l.length := by omega
      have e1 : l.take l.length = l := List.take_length
      rw [e1]
      clear e1
      go_wp2
      go_ret
      exact ⟨rfl, hb⟩
end Go.Proofs.YthdenmbfeanioaaGreatDoor
