/- This text proves what the writers of lines return: told of package tally, digits and line of its reference. -/
import Derived.Test.YthdenmbfeanioaaGreatDoorLibs
namespace Go.Proofs.YthdenmbfeanioaaGreatDoor
open Go.RowKit Go.Shelf
attribute [local go_sem] Oper.semAt_some

def toldB (l : List Int) : ByteArray := ⟨(toldV l).toArray⟩
theorem told_eq (l : List Int) : (⟨(Lib.join ((l.map itoaB).map (·.data.toList)) [32]).toArray⟩ : ByteArray) = toldB l := by
  unfold toldB toldV
  rw [List.map_map]
  rfl
def All64 (l : List Int) : Prop := ∀ n ∈ l, Int64 n
theorem it_mem {l : List Int} {k : Nat} (h : k < l.length) : it l k ∈ l := by
  simp [it, h]
theorem map_take {l : List Int} {k : Nat} (h : k < l.length) : (l.take (k + 1)).map itoaB = (l.take k).map itoaB ++ [itoaB (it l k)] := by
  rw [take_it h, List.map_append]
  rfl

set_option maxRecDepth 100000 in
set_option maxHeartbeats 2000000 in
theorem c_told (l : List Int) (a : Option Addr) (cap : Nat) (w : World) (hL : LibW w) (hl : Ints w a l) (h64 : All64 l) (hlen : l.length ≤ 1000000) :
    Calls Tryz.prog 25 #[.slice a l.length cap] w fun e w' => e = .returned (.string (toldB l)) ∧ Below w.heap.size w w' := by
  have HL := Lib.hid hl
  have HW := Lib.hid hL
  have H64 := Lib.hid h64
  clear hl hL h64
  obtain ⟨i0, hi0, hz0, hz1, hz2⟩ := info_parts str_info
  go_enter Tryz.func25, Tryz.ntmps25
  go_wp2
  go_loopw [3, 8] (fun v3 v8 wr => ∃ k : Nat, k ≤ l.length ∧ v8 = .int .i64 k ∧ wr.ownsRow w.heap.size 9 1 v3 ((l.take k).map itoaB).length (cellsL strC ((l.take k).map itoaB)) ∧ Below w.heap.size w wr) (fun _ v8 _ => l.length - (intOf v8).toNat)
  case atStart => exact ⟨0, by omega, rfl, own_nil _ _ _ _, Below.refl _ _⟩
  case round =>
    obtain ⟨k, hk, rfl, hown, hb⟩ := hrel
    have HO := Lib.hid hown
    clear hown
    by_cases hlt : k < l.length
    · obtain ⟨b, o, rfl, hat⟩ := (HL.out.later hb).2 (by intro e; rw [e] at hlt; simp at hlt)
      have hx := hat k hlt
      clear hat
      have hlk : ((l.take k).map itoaB).length ≤ k := by rw [List.length_map]; exact List.length_take_le _ _
      have HX := Lib.hid (map_take hlt)
      have hn := H64.out _ (it_mem hlt)
      have HN := Lib.hid hn
      clear hn
      generalize it l k = x at *
      have hidx : ¬ ((k : Int) < 0) := by omega
      have hidx2 : (k : Int) < (l.length : Int) := by omega
      have LW := Lib.hid (HW.out.later hb)
      go_wp2_with fail
      refine (via (w0 := wr) (by go_grown) (c_Itoa x _ LW.out HN.out)).mono ?_
      rintro e W1 ⟨rfl, hc, hf, hz, hB⟩
      have HH := own_below HO.out hB
      have hzb := hb.size
      have HHid := Lib.hid HH
      clear hc hf hx LW
      go_wp2_with (at_builtin; refine stuckHere ?_)
      refine unHid ?_
      refine wpList_append_own_at _ rfl _ _ 90 rfl w.heap.size 9 i0 _ 1 16 Tryz.underlying90 hi0 hz0 hz1 hz2 rfl (by decide) _ _ _ rfl (HHid.out.alloc _) ⟨W1.heap.size, 0, none⟩ 1 1 [.string (itoaB x)] rfl rfl (cells_new _ #[_] _) (by simp [Value.oneCell']) (by unfold maxLen; omega) (by omega) (by simp; omega) ?_
      intro v' w1 hown' hgrow _ hat
      have hown2 : w1.ownsRow w.heap.size 9 1 v' ((l.take (k + 1)).map itoaB).length (cellsL strC ((l.take (k + 1)).map itoaB)) := by
        rw [HX.out, cellsL_snoc, List.length_append]
        exact hown'
      have hlt' := HH.lt
      have hbb : Below w.heap.size w w1 := by
        have h1 : Below w.heap.size w (W1.alloc (Obj.cells #[.string (itoaB x)] 9)) := (bthen hb hB).alloc (bthen hb hB).size _
        exact h1.trans ((kept_of_grown hgrow).below (by simp; omega) (fun j hj => (hlt' j hj).1))
      have HB := Lib.hid hbb
      have HW2 := Lib.hid hown2
      clear hown' hgrow hat hlt' hown2 hbb HH HHid HO hB hz
      go_wp2
      go_roundw
      case rel => exact ⟨k + 1, by omega, by go_num, HW2.out, HB.out⟩
      case measure => simp [intOf]; omega
    · obtain rfl : k = l.length := by omega
      have hown := HO.out
      rw [List.take_length] at hown
      obtain ⟨b, c, rfl, hcap, hr, hnew⟩ := str_own hown
      have hr' := hr (by rw [List.length_map]; omega)
      have hj : (Lib.join ((l.map itoaB).map (·.data.toList)) [32]).length ≤ 140737488355328 := by
        have h1 := toldV_len l (fun n hn => H64.out n hn)
        have h2 := congrArg ByteArray.data (told_eq l)
        have h3 : Lib.join ((l.map itoaB).map (·.data.toList)) [32] = toldV l := by simpa [toldB] using h2
        rw [h3]
        omega
      have ht := told_eq l
      clear hnew hr hown HO
      generalize l.map itoaB = S at hr' hcap hj ht
      have HR := Lib.hid hr'
      have HC := Lib.hid hcap
      have HJ := Lib.hid hj
      have HT := Lib.hid ht
      clear hr' hcap hj ht
      go_wp2_with fail
      refine (c_Join S b c _ HR.out HC.out HJ.out).mono ?_
      rw [HT.out]
      rintro e W1 ⟨rfl, hB⟩
      have hbn := bthen hb hB
      clear hb hB
      go_wp2
      go_ret
      exact ⟨rfl, hbn⟩

/-! ### The reference's writer -/
theorem str_add (a b : List UInt8) : (⟨a.toArray⟩ : ByteArray) ++ ⟨b.toArray⟩ = ⟨(a ++ b).toArray⟩ := by
  apply ByteArray.ext
  simp
def decB (u : Nat) : ByteArray := ⟨(Lib.decDigits u).toArray⟩
theorem decB_big {u : Nat} (h : ¬ u < 10) : decB (u / 10) ++ decB (u % 10) = decB u := by
  unfold decB
  rw [str_add, Lib.decDigits.eq_1 u, dif_neg h, Lib.decDigits.eq_1 (u % 10), dif_pos (by omega)]
theorem decB_small {u : Nat} (h : u < 10) : decB u = ⟨[UInt8.ofNat (48 + u)].toArray⟩ := by
  unfold decB
  rw [Lib.decDigits.eq_1 u, dif_pos h]

theorem decB_size {u : Nat} (h : u ≤ 9223372036854775807) : (decB u).size ≤ 19 := by
  have e : (decB u).size = (Lib.decDigits u).length := by simp [decB, ByteArray.size]
  rw [e, Lib.decDigits_length]
  rcases Nat.lt_or_ge 19 (Lib.nDigits u) with h1 | h1
  · have := pow_le_of_digits 19 u h1 (by decide)
    omega
  · exact h1
theorem conv_digit {u : Nat} (h : u < 10) (w : World) : (convert 109 9 (.slice (some ⟨w.heap.size, 0, none⟩) 1 1)).run Tryz.prog (w.alloc (.cells #[.int .u8 (48 + (u : Int))] 5)) = .ok (.string ⟨[UInt8.ofNat (48 + u)].toArray⟩) (w.alloc (.cells #[.int .u8 (48 + (u : Int))] 5)) :=
  run_convert_bytes_back (w.alloc (.cells #[.int .u8 (48 + (u : Int))] 5)) 109 9 5 ⟨w.heap.size, 0, none⟩ 1 [UInt8.ofNat (48 + u)] Tryz.underlying109 Tryz.underlying5 Tryz.underlying9 (fun j hj => by
    obtain rfl : j = 0 := by simpa using hj
    rw [cells_new w #[.int .u8 (48 + (u : Int))] 5 0 _ rfl]
    simp
    omega)
set_option maxRecDepth 100000 in
set_option maxHeartbeats 2000000 in
theorem c_digits (u : Nat) : ∀ (w : World), u ≤ 9223372036854775807 →
    Calls Tryz.prog 51 #[.int .i64 u] w fun e w' => e = .returned (.string (decB u)) ∧ Below w.heap.size w w' := by
  induction u using Nat.strongRecOn with
  | _ u ih =>
    intro w hu
    have HI := Lib.hid ih
    clear ih
    by_cases h : u < 10
    · have hk := Lib.hid (decB_small h)
      have h' : (u : Int) < 10 := by omega
      have h0 : (0 : Int) ≤ u := by omega
      have hconv := conv_digit h w
      rw [← hk.out] at hconv
      clear h
      go_enter Tryz.func51, Tryz.ntmps51
      go_wp2_with fail
      go_ret
      exact ⟨rfl, by go_grown⟩
    · have hk := Lib.hid (decB_big h)
      have h' : ¬ (u : Int) < 10 := by omega
      have h0 : (0 : Int) ≤ u := by omega
      have s1 := decB_size (u := u / 10) (by omega)
      have s2 := decB_size (u := u % 10) (by omega)
      have hs1 : ((decB (u / 10)).size : Int) ≤ 8388608 := by omega
      have hs2 : ((decB (u % 10)).size : Int) ≤ 8388608 := by omega
      clear s1 s2
      go_enter Tryz.func51, Tryz.ntmps51
      go_wp2_with fail
      refine (via (w0 := w) (by go_grown) (HI.out (u / 10) (by omega) _ (by omega))).mono ?_
      rintro e W1 ⟨rfl, hc, hf, hz, hB⟩
      clear hc hf
      have hb0 := hB
      clear hB
      go_wp2_with fail
      refine (via (w0 := W1) (by go_grown) (HI.out (u % 10) (by omega) _ (by omega))).mono ?_
      rintro e W2 ⟨rfl, hc, hf, hz2, hB⟩
      clear hc hf
      have hbn := bthen hb0 hB
      clear hB hb0
      go_wp2_with fail
      go_ret
      exact ⟨by rw [hk.out]; rfl, hbn⟩
end Go.Proofs.YthdenmbfeanioaaGreatDoor
