/- This text is a part of the proof: Carry, Model, Elems, Names, RefBasic, RefNames, RefCheck, RefNode, RefWay. -/
import Derived.Test.YtlppdgaogdpajaaGreatDoorK12
import Derived.Test.YtlppdgaogdpajaaGreatDoorK20
set_option maxRecDepth 100000
set_option maxHeartbeats 4000000
namespace Go.Proofs.YtlppdgaogdpajaaGreatDoor
open Go.RowKit
theorem cl3 {w W : World} {b0 o0 b1 o1 b2 o2 : Nat} {v0 v1 v2 : Value} (h : Below w.heap.size w W) (k0 : w.cell? ⟨b0, o0, none⟩ = some v0) (k1 : w.cell? ⟨b1, o1, none⟩ = some v1) (k2 : w.cell? ⟨b2, o2, none⟩ = some v2) : W.cell? ⟨b0, o0, none⟩ = some v0 ∧ W.cell? ⟨b1, o1, none⟩ = some v1 ∧ W.cell? ⟨b2, o2, none⟩ = some v2 :=
 ⟨cl1 h k0, cl1 h k1, cl1 h k2⟩
end Go.Proofs.YtlppdgaogdpajaaGreatDoor
namespace Go.Proofs.YtlppdgaogdpajaaGreatDoor
def numberArcV (f : Fe) (p t : Int) : Int × Int :=
 if checkE f ≠ 0 then (0, checkE f) else if rg 0 f.ticks t = false then (0, 1) else if rg 0 (f.places.length - 1) p = false then (0, 50) else (idxN f 1 p t, 0)
end Go.Proofs.YtlppdgaogdpajaaGreatDoor
namespace Go.Proofs.YtlppdgaogdpajaaGreatDoor
open Go.RowKit Go.Shelf
attribute [local go_sem] Oper.semAt_some
theorem toList_eqB (a b : ByteArray) : (a.toList == b.toList) = decide (a = b) := by
 by_cases h : a = b
 ·subst h; simp
 ·have : (a.toList == b.toList) = false := by
   rw [beq_eq_false_iff_ne]
   exact fun h2 => h (toList_inj h2)
  rw [this]
  simp [h]
end Go.Proofs.YtlppdgaogdpajaaGreatDoor
namespace Go.Proofs.YtlppdgaogdpajaaGreatDoor
def refC (c : UInt8) (i : Nat) : Bool := (decide (97 ≤ c.toNat) && decide (c.toNat ≤ 122)) || (((decide (48 ≤ c.toNat) && decide (c.toNat ≤ 57)) || c.toNat == 45) && decide (0 < i))
def refPre (l : List UInt8) : Nat → Bool
 | 0 => decide (0 < l.length) && decide (l.length ≤ 24)
 | k + 1 => refPre l k && (match l[k]? with | some c => refC c k | none => true)
theorem refC_pos (c : UInt8) {i : Nat} (h : 0 < i) : refC c i = !badC c := by
 have hd : decide (0 < i) = true := by simpa using h
 unfold refC badC
 rw [hd, Bool.and_true, Bool.eq_iff_iff]
 simp only [Bool.or_eq_true, Bool.and_eq_true, decide_eq_true_eq, beq_iff_eq, Bool.not_eq_true', Bool.and_eq_false_iff, Bool.or_eq_false_iff, decide_eq_false_iff_not, bne_eq_false_iff_eq]
 omega
theorem refC_zero (c : UInt8) : refC c 0 = (decide (97 ≤ c.toNat) && decide (c.toNat ≤ 122)) := by
 unfold refC
 simp
theorem refPre_cons (c : UInt8) (r : List UInt8) : ∀ k, k ≤ r.length → refPre (c :: r) (k + 1) = (decide (r.length < 24) && (decide (97 ≤ c.toNat) && decide (c.toNat ≤ 122)) && (r.take k).all fun c => !badC c)
 | 0, _ => by
  simp only [refPre, List.getElem?_cons_zero, refC_zero, List.take_zero, List.all_nil, Bool.and_true, List.length_cons]
  congr 1
 | k + 1, hk => by
  have ih := refPre_cons c r k (by omega)
  rw [refPre, ih]
  have hx : (c :: r)[k + 1]? = some r[k] := by simp
  rw [hx, List.take_succ_eq_append_getElem (by omega), List.all_append]
  simp only [refC_pos r[k] (Nat.succ_pos k), List.all_cons, List.all_nil, Bool.and_true, Bool.and_assoc]
theorem refName (l : List UInt8) : refPre l l.length = nameL l := by
 cases l with
 | nil => simp [refPre, nameL]
 | cons c r =>
  have h := refPre_cons c r r.length (Nat.le_refl _)
  rw [List.length_cons, h, List.take_length, nameL]
  by_cases h1 : 97 ≤ c.toNat <;> by_cases h2 : c.toNat ≤ 122
  ·have hb : badC c = false := by
    unfold badC
    have e1 : decide (c.toNat < 97) = false := by simp; omega
    have e2 : decide (122 < c.toNat) = false := by simp; omega
    rw [e1, e2]
    rfl
   rw [List.any_cons, hb, Bool.false_or, List.not_any_eq_all_not]
   simp [h1, h2]
  all_goals simp [h1, h2]
def refTwice (l : List ByteArray) : Nat → Bool
 | 0 => false
 | k + 1 => refTwice l k || (match l[k]? with | some s => decide (idxS l s < k) | none => false)
theorem idxP_append {α : Type} (p : α → Bool) : ∀ (l r : List α) (k : Nat), idxP p (l ++ r) k = if l.any p then idxP p l k else idxP p r (k + l.length)
 | [], r, k => by simp
 | x :: l, r, k => by
  rw [List.cons_append, idxP, List.any_cons]
  cases h : p x with
  | true => simp [idxP, h]
  | false =>
   rw [idxP_append p l r (k + 1)]
   simp only [h, Bool.false_or, idxP, List.length_cons]
   rw [show k + 1 + l.length = k + (l.length + 1) by omega]
   rfl
theorem idxP_lt {α : Type} (p : α → Bool) : ∀ (l : List α) (k : Nat), l.any p = true → idxP p l k < k + l.length
 | [], _, h => by simp at h
 | x :: l, k, h => by
  rw [idxP]
  cases hx : p x with
  | true => simp; omega
  | false =>
   rw [List.any_cons, hx, Bool.false_or] at h
   have := idxP_lt p l (k + 1) h
   simp
   omega
theorem idxS_before (l : List ByteArray) (k : Nat) (s : ByteArray) (h : l[k]? = some s) : decide (idxS l s < k) = memB s (l.take k) := by
 have hk : k < l.length := (List.getElem?_eq_some_iff.1 h).1
 have hs : l[k] = s := by simpa [hk] using h
 have e : l = l.take k ++ s :: l.drop (k + 1) := by rw [← hs, ← List.drop_eq_getElem_cons hk, List.take_append_drop]
 have hany : memB s (l.take k) = (l.take k).any (fun x => decide (x = s)) := rfl
 have hlen : (l.take k).length = k := by rw [List.length_take]; omega
 rw [hany]
 unfold idxS
 have hi : idxP (fun x => decide (x = s)) l 0 = if (l.take k).any (fun x => decide (x = s)) then idxP (fun x => decide (x = s)) (l.take k) 0 else (k : Int) := by
  conv => lhs; rw [e, idxP_append]
  congr 1
  rw [idxP, hlen]
  simp
 rw [hi]
 cases ha : (l.take k).any (fun x => decide (x = s)) with
 | true =>
  have := idxP_lt (fun x => decide (x = s)) (l.take k) 0 ha
  simp
  omega
 | false => simp
theorem refTwice_take (l : List ByteArray) : ∀ k, k ≤ l.length → refTwice l k = twiceB (l.take k)
 | 0, _ => by simp [refTwice, twiceB]
 | k + 1, hk => by
  obtain ⟨s, hs⟩ : ∃ s, l[k]? = some s := ⟨l[k], by simp⟩
  have e : l.take (k + 1) = l.take k ++ [s] := by rw [List.take_add_one, hs]; rfl
  rw [refTwice, refTwice_take l k (by omega), hs, e, twiceB_append]
  show (_ || decide (idxS l s < k)) = _
  rw [idxS_before l k s hs]
theorem refTwice_all (l : List ByteArray) : refTwice l l.length = twiceB l := by
 rw [refTwice_take l l.length (Nat.le_refl _), List.take_length]
end Go.Proofs.YtlppdgaogdpajaaGreatDoor
namespace Go.Proofs.YtlppdgaogdpajaaGreatDoor
open Go.RowKit Go.Shelf
attribute [local go_sem] Oper.semAt_some
theorem c_rWithin (n lo hi : Int) (w : World) : Calls Tryz.prog 113 #[.int .i64 n, .int .i64 lo, .int .i64 hi] w fun e w' => e = .returned (.bool (rg lo hi n)) ∧ Below w.heap.size w w' := by
 by_cases h1 : lo ≤ n
 ·by_cases h2 : n ≤ hi
  ·rw [show rg lo hi n = true from rg_iff.2 ⟨h1, h2⟩]
   go_enter Tryz.func113, Tryz.ntmps113
   go_wp2
   go_ret
   exact ⟨rfl, by go_grown⟩
  ·rw [show rg lo hi n = false from rg_no (.inr h2)]
   go_enter Tryz.func113, Tryz.ntmps113
   go_wp2
   go_ret
   exact ⟨rfl, by go_grown⟩
 ·rw [show rg lo hi n = false from rg_no (.inl h1)]
  go_enter Tryz.func113, Tryz.ntmps113
  go_wp2
  go_ret
  exact ⟨rfl, by go_grown⟩
theorem c_rIndex (s : ByteArray) (l : List ByteArray) (a : Option Addr) (cap : Nat) (w : World) (hl : Strs w a l) :
  Calls Tryz.prog 138 #[.slice a l.length cap, .string s] w fun e w' => e = .returned (.int .i64 (idxS l s)) ∧ Below w.heap.size w w' := by
 have hlen := hl.1
 have HL := Lib.hid hl
 clear hl
 unfold idxS
 go_enter Tryz.func138, Tryz.ntmps138
 go_wp2
 go_loopw [5] (fun v5 wr => ∃ k : Nat, k ≤ l.length ∧ v5 = .int .i64 k ∧ idxP (fun x => decide (x = s)) l 0 = idxP (fun x => decide (x = s)) (l.drop k) k ∧ Below w.heap.size w wr) (fun v5 _ => l.length - (intOf v5).toNat)
 case atStart => exact ⟨0, by omega, rfl, rfl, by go_grown⟩
 case round =>
  obtain ⟨k, hk, rfl, hi, hb⟩ := hrel
  have HI := Lib.hid hi
  clear hi
  by_cases hlt : k < l.length
  ·obtain ⟨x, hx⟩ := some_at hlt
   obtain ⟨b, o, rfl, hat⟩ := (HL.out.later hb).at hx
   rw [Nat.mul_one] at hat
   have y0 := str_cell hat
   have hst := idxP_step (fun x => decide (x = s)) hx
   have HS := Lib.hid hst
   have hi1 : ¬ (k : Int) < 0 := by omega
   have hi2 : (k : Int) < (l.length : Int) := by omega
   clear hx hat hst
   by_cases he : x = s
   ·subst he
    have ht : (x.toList == x.toList) = true := by simp
    go_wp2
    go_ret
    exact ⟨by rw [HI.out, HS.out]; simp, hb⟩
   ·have ht : (x.toList == s.toList) = false := by
     rw [beq_eq_false_iff_ne]
     exact fun h => he (toList_inj h)
    have hf : decide (x = s) = false := by simpa using he
    have HF := Lib.hid hf
    have HE := Lib.hid he
    clear hf he
    go_wp2
    go_roundw
    case rel => exact ⟨k + 1, by omega, by go_num, by rw [HI.out, HS.out, HF.out]; rfl, hb⟩
    case measure => simp [intOf]; omega
  ·obtain rfl : k = l.length := by omega
   have hi2 : ¬ (l.length : Int) < (l.length : Int) := by omega
   go_wp2
   go_ret
   exact ⟨by rw [HI.out]; simp [idxP], hb⟩
theorem refPre_step {s : ByteArray} {k : Nat} (h : k < s.size) : refPre s.data.toList (k + 1) = (refPre s.data.toList k && refC s[k] k) := by
 rw [refPre]
 have e : s.data.toList[k]? = some s[k] := by
  rw [Array.getElem?_toList]
  exact Array.getElem?_eq_getElem h
 rw [e]
theorem c_rName (s : ByteArray) (w : World) (hs : s.size ≤ 1000000) : Calls Tryz.prog 127 #[.string s] w fun e w' => e = .returned (.bool (nameB s)) ∧ Below w.heap.size w w' := by
 have e0 : nameB s = refPre s.data.toList s.size := by
  unfold nameB
  rw [← refName]
  rfl
 have h00 : refPre s.data.toList 0 = (decide (0 < s.size) && decide (s.size ≤ 24)) := rfl
 rw [e0]
 obtain ⟨P, hP⟩ : ∃ P : Nat → Bool, ∀ k, refPre s.data.toList k = P k := ⟨_, fun _ => rfl⟩
 have hst := fun k (h : k < s.size) => refPre_step h
 simp only [hP] at hst h00 ⊢
 have HST := Lib.hid hst
 clear hst hP e0
 obtain ⟨z1, hz1⟩ : ∃ b, decide ((0 : Int) < (s.size : Int)) = b := ⟨_, rfl⟩
 obtain ⟨z2, hz2⟩ : ∃ b, decide ((s.size : Int) ≤ 24) = b := ⟨_, rfl⟩
 have h01 : P 0 = (z1 && z2) := by
  rw [h00, ← hz1, ← hz2]
  congr 1
  ·rw [Bool.eq_iff_iff, decide_eq_true_eq, decide_eq_true_eq]; omega
  ·rw [Bool.eq_iff_iff, decide_eq_true_eq, decide_eq_true_eq]; omega
 have H01 := Lib.hid h01
 clear h00 h01
 have main : ∀ (R : Bool) (hR : P 0 = R), True := fun _ _ => trivial
 clear main
 cases z1
 ·have g1 : ¬ (0 : Int) < (s.size : Int) := by simpa using hz1
  clear hz1 hz2
  have h1 : s.size = 0 := by omega
  have hp : P s.size = false := by rw [h1]; simpa using H01.out
  have HP := Lib.hid hp
  have g3 : ¬ (0 : Int) < (s.size : Int) := g1
  clear hp h1
  go_enter Tryz.func127, Tryz.ntmps127
  go_wp2
  go_loopw [3, 4] (fun v3 v4 wr => v4 = .int .i64 0 ∧ v3 = .bool false ∧ Below w.heap.size w wr) (fun _ _ _ => 0)
  case atStart => exact ⟨rfl, rfl, by go_grown⟩
  case round =>
   obtain ⟨rfl, rfl, hb⟩ := hrel
   go_wp2
   go_ret
   exact ⟨by first | rfl | (rw [HP.out]; rfl), hb⟩
 ·have g1 : (0 : Int) < (s.size : Int) := by simpa using hz1
  clear hz1
  cases z2
  ·have g2 : ¬ (s.size : Int) ≤ 24 := by simpa using hz2
   clear hz2
   go_enter Tryz.func127, Tryz.ntmps127
   go_wp2
   go_loopw [3, 4] (fun v3 v4 wr => ∃ k : Nat, k ≤ s.size ∧ v4 = .int .i64 k ∧ v3 = .bool (P k) ∧ Below w.heap.size w wr) (fun _ v4 _ => s.size - (intOf v4).toNat)
   case atStart => exact ⟨0, by omega, rfl, by rw [H01.out]; rfl, by go_grown⟩
   case round =>
    clear H01 g1 g2
    obtain ⟨k, hk, rfl, rfl, hb⟩ := hrel
    have HB := Lib.hid hb
    clear hb
    by_cases hlt : k < s.size
    ·have hnx := HST.out k hlt
     have hi1 : ¬ (k : Int) < 0 := by omega
     have hi2 : (k : Int) < (s.size : Int) := by omega
     have hc : s[k].toNat < 256 := s[k].toNat_lt
     have hrc : refC s[k] k = ((decide (97 ≤ s[k].toNat) && decide (s[k].toNat ≤ 122)) || (((decide (48 ≤ s[k].toNat) && decide (s[k].toNat ≤ 57)) || s[k].toNat == 45) && decide (0 < k))) := rfl
     rw [hrc] at hnx
     clear hrc
     generalize P k = ok at hnx ⊢
     generalize hcn : s[k].toNat = n at hnx hc ⊢
     have HNX := Lib.hid hnx
     clear hnx
     cases ok
     all_goals by_cases a0 : (0 : Int) < (k : Int)
     all_goals by_cases a1 : (97 : Int) ≤ (n : Int)
     all_goals by_cases a2 : (n : Int) ≤ 122
     all_goals by_cases a3 : (48 : Int) ≤ (n : Int)
     all_goals by_cases a4 : (n : Int) ≤ 57
     all_goals by_cases a5 : (n : Int) = 45
     all_goals first
      | (exfalso; omega)
      | skip
     all_goals
      first
       | have a6 : ((n : Int) == 45) = true := beq_iff_eq.2 a5
       | have a6 : ((n : Int) == 45) = false := beq_eq_false_iff_ne.2 a5
      have HR := HNX
      clear HNX a5
      go_wp2
      go_roundw
      case rel =>
       refine ⟨k + 1, by omega, by go_num, ?_, HB.out⟩
       have hx := HR.out
       rw [hx]
       all_goals try congr 1
       all_goals
        have b6 := a6
        simp only [beq_iff_eq, beq_eq_false_iff_ne, ne_eq] at b6
        try simp
        try omega
        try
         rw [Bool.eq_iff_iff]
         simp
         omega
      case measure => simp [intOf]; omega
    ·obtain rfl : k = s.size := by omega
     have hi2 : ¬ (s.size : Int) < (s.size : Int) := by omega
     go_wp2
     go_ret
     exact ⟨rfl, HB.out⟩
  ·have g2 : (s.size : Int) ≤ 24 := by simpa using hz2
   clear hz2
   go_enter Tryz.func127, Tryz.ntmps127
   go_wp2
   go_loopw [3, 4] (fun v3 v4 wr => ∃ k : Nat, k ≤ s.size ∧ v4 = .int .i64 k ∧ v3 = .bool (P k) ∧ Below w.heap.size w wr) (fun _ v4 _ => s.size - (intOf v4).toNat)
   case atStart => exact ⟨0, by omega, rfl, by rw [H01.out]; rfl, by go_grown⟩
   case round =>
    clear H01 g1 g2
    obtain ⟨k, hk, rfl, rfl, hb⟩ := hrel
    have HB := Lib.hid hb
    clear hb
    by_cases hlt : k < s.size
    ·have hnx := HST.out k hlt
     have hi1 : ¬ (k : Int) < 0 := by omega
     have hi2 : (k : Int) < (s.size : Int) := by omega
     have hc : s[k].toNat < 256 := s[k].toNat_lt
     have hrc : refC s[k] k = ((decide (97 ≤ s[k].toNat) && decide (s[k].toNat ≤ 122)) || (((decide (48 ≤ s[k].toNat) && decide (s[k].toNat ≤ 57)) || s[k].toNat == 45) && decide (0 < k))) := rfl
     rw [hrc] at hnx
     clear hrc
     generalize P k = ok at hnx ⊢
     generalize hcn : s[k].toNat = n at hnx hc ⊢
     have HNX := Lib.hid hnx
     clear hnx
     cases ok
     all_goals by_cases a0 : (0 : Int) < (k : Int)
     all_goals by_cases a1 : (97 : Int) ≤ (n : Int)
     all_goals by_cases a2 : (n : Int) ≤ 122
     all_goals by_cases a3 : (48 : Int) ≤ (n : Int)
     all_goals by_cases a4 : (n : Int) ≤ 57
     all_goals by_cases a5 : (n : Int) = 45
     all_goals first
      | (exfalso; omega)
      | skip
     all_goals
      first
       | have a6 : ((n : Int) == 45) = true := beq_iff_eq.2 a5
       | have a6 : ((n : Int) == 45) = false := beq_eq_false_iff_ne.2 a5
      have HR := HNX
      clear HNX a5
      go_wp2
      go_roundw
      case rel =>
       refine ⟨k + 1, by omega, by go_num, ?_, HB.out⟩
       have hx := HR.out
       rw [hx]
       all_goals try congr 1
       all_goals
        have b6 := a6
        simp only [beq_iff_eq, beq_eq_false_iff_ne, ne_eq] at b6
        try simp
        try omega
        try
         rw [Bool.eq_iff_iff]
         simp
         omega
      case measure => simp [intOf]; omega
    ·obtain rfl : k = s.size := by omega
     have hi2 : ¬ (s.size : Int) < (s.size : Int) := by omega
     go_wp2
     go_ret
     exact ⟨rfl, HB.out⟩
theorem drop_some {α : Type} {l : List α} {k : Nat} {x : α} (h : l[k]? = some x) : l.drop k = x :: l.drop (k + 1) := by
 obtain ⟨hk, rfl⟩ := List.getElem?_eq_some_iff.1 h
 exact List.drop_eq_getElem_cons hk
theorem refTwice_step {l : List ByteArray} {k : Nat} {s : ByteArray} (h : l[k]? = some s) : refTwice l (k + 1) = (refTwice l k || decide (idxS l s < k)) := by
 rw [refTwice, h]
theorem refTwice_mono {l : List ByteArray} {k : Nat} (h : refTwice l k = true) : ∀ {n : Nat}, k ≤ n → refTwice l n = true
 | 0, hk => by
  obtain rfl : k = 0 := by omega
  exact h
 | n + 1, hk => by
  by_cases e : k = n + 1
  ·subst e; exact h
  ·rw [refTwice, refTwice_mono h (by omega), Bool.true_or]
theorem c_rNames (m : Fm) (w : World) (hm : m.In w) : Calls Tryz.prog 110 #[m.v] w fun e w' => (∃ b1 c1 b2 c2, e = .returned (.tuple #[.slice b1 (plNames m.f.places).length c1, .slice b2 (gtNames m.f.gates).length c2]) ∧ Strs w' b1 (plNames m.f.places) ∧ Strs w' b2 (gtNames m.f.gates)) ∧ Below w.heap.size w w' := by
 have HM := Lib.hid hm
 have hlp := hm.pl.1
 have hlg := hm.gt.1
 obtain ⟨i0, hi0, hz0, hz1, hz2⟩ := info_parts str_info
 clear hm
 go_enter Tryz.func110, Tryz.ntmps110
 go_upto_region 1 with (fail)
 go_name_world W1 hW1
 have hb0 : Below w.heap.size w W1 := by subst hW1; go_grown
 obtain ⟨q0, q1, q2, q3⟩ := (show QB m W1 w.heap.size from by subst hW1; and_intros <;> go_simp)
 clear hW1 
 have HQ1 := Lib.hid (show CellsAt W1 w.heap.size 0 (feC m) from cells_4 q0 q1 q2 q3)
 have HB1 := Lib.hid hb0
 clear q0 q1 q2 q3 hb0
 go_wp2
 go_loopw [4, 6] (fun v4 v6 wr => ∃ k : Nat, k ≤ m.f.places.length ∧ v6 = .int .i64 k ∧ wr.ownsRow W1.heap.size 9 1 v4 (plNames (m.f.places.take k)).length (cellsL strC (plNames (m.f.places.take k))) ∧ Below W1.heap.size W1 wr) (fun _ v6 _ => m.f.places.length - (intOf v6).toNat)
 case atStart => exact ⟨0, by omega, rfl, own_nil _ _ _ _, Below.refl _ _⟩
 case round =>
  obtain ⟨k, hk, rfl, hown, hb⟩ := hrel
  have HO := Lib.hid hown
  clear hown
  obtain ⟨q0, q1, q2, q3⟩ := fe_cells (HQ1.out.later hb)
  clear q0 q1
  have hbw := bthen HB1.out hb
  have hzb := hb.size
  by_cases hlt : k < m.f.places.length
  ·obtain ⟨x, hx⟩ := some_at hlt
   obtain ⟨b, o, hpa, hat⟩ := (HM.out.later hbw).pl.at hx
   have y0 := (pl_cells hat).1
   have hlk : (plNames (m.f.places.take k)).length ≤ k := by unfold plNames; rw [List.length_map]; exact List.length_take_le _ _
   have HX := Lib.hid (pl_take hx)
   have hi1 : ¬ (k : Int) < 0 := by omega
   have hi2 : (k : Int) < (m.f.places.length : Int) := by omega
   rw [hpa] at q2
   clear hat hx hpa hbw q3
   go_wp2_with (at_builtin; refine stuckHere ?_)
   refine unHid ?_
   refine wpList_append_own_at _ rfl _ _ 93 rfl W1.heap.size 9 i0 _ 1 16 Tryz.underlying93 hi0 hz0 hz1 hz2 rfl (by decide) _ _ _ rfl (HO.out.alloc _) ⟨_, 0, none⟩ 1 1 [.string x.name] rfl rfl (cells_new _ #[_] _) (by simp [Value.oneCell']) (by unfold maxLen; omega) (by omega) (by simp; omega) ?_
   intro v' w1 hown' hgrow _ hat
   have hown2 : w1.ownsRow W1.heap.size 9 1 v' (plNames (m.f.places.take (k + 1))).length (cellsL strC (plNames (m.f.places.take (k + 1)))) := by
    rw [HX.out, cellsL_snoc, List.length_append]
    exact hown'
   have hbb : Below W1.heap.size W1 w1 := (hb.alloc hb.size _).trans ((kept_of_grown hgrow).below (by simp; omega) (fun j hj => (HO.out.lt j hj).1))
   have HB := Lib.hid hbb
   have HW2 := Lib.hid hown2
   clear hown' hgrow hat hown2 hbb hb q2 y0
   go_wp2
   go_roundw
   case rel => exact ⟨k + 1, by omega, by go_num, HW2.out, HB.out⟩
   case measure => simp [intOf]; omega
  ·obtain rfl : k = m.f.places.length := by omega
   have hi2 : ¬ (m.f.places.length : Int) < (m.f.places.length : Int) := by omega
   have hown := HO.out
   rw [List.take_length] at hown
   obtain ⟨b1, c1, rfl, hcap, _, hr, hnew⟩ := Lst.own strC_len hown
   have hr' := hr (by unfold plNames; rw [List.length_map]; omega)
   have HR1 := Lib.hid hr'
   clear hcap hnew hr hr' hown HO
   have HQ2 := Lib.hid (HQ1.out.later hb)
   have HB2 := Lib.hid hbw
   clear hb hbw hzb
   go_wp2
   clear q2 q3
   obtain ⟨W7, h7⟩ : ∃ x, x = wr := ⟨_, rfl⟩
   subst h7
   go_loopw [5, 7] (fun v5 v7 wr => ∃ k : Nat, k ≤ m.f.gates.length ∧ v7 = .int .i64 k ∧ wr.ownsRow W7.heap.size 9 1 v5 (gtNames (m.f.gates.take k)).length (cellsL strC (gtNames (m.f.gates.take k))) ∧ Below W7.heap.size W7 wr) (fun _ v7 _ => m.f.gates.length - (intOf v7).toNat)
   case atStart => exact ⟨0, by omega, rfl, own_nil _ _ _ _, Below.refl _ _⟩
   case round =>
    obtain ⟨k, hk, rfl, hown, hb⟩ := hrel
    have HO := Lib.hid hown
    clear hown
    obtain ⟨q0, q1, q2, q3⟩ := fe_cells (HQ2.out.later hb)
    clear q0 q1
    have hbw := bthen HB2.out hb
    have hzb := hb.size
    by_cases hlt : k < m.f.gates.length
    ·obtain ⟨x, hx⟩ := some_at hlt
     obtain ⟨b, o, hpa, hat⟩ := (HM.out.later hbw).gt.at hx
     have y0 := (gt_cells hat).1
     have hlk : (gtNames (m.f.gates.take k)).length ≤ k := by unfold gtNames; rw [List.length_map]; exact List.length_take_le _ _
     have HX := Lib.hid (gt_take hx)
     have hi1 : ¬ (k : Int) < 0 := by omega
     have hi2 : (k : Int) < (m.f.gates.length : Int) := by omega
     rw [hpa] at q3
     clear hat hx hpa hbw q2
     go_wp2_with (at_builtin; refine stuckHere ?_)
     refine unHid ?_
     refine wpList_append_own_at _ rfl _ _ 93 rfl W7.heap.size 9 i0 _ 1 16 Tryz.underlying93 hi0 hz0 hz1 hz2 rfl (by decide) _ _ _ rfl (HO.out.alloc _) ⟨_, 0, none⟩ 1 1 [.string x.name] rfl rfl (cells_new _ #[_] _) (by simp [Value.oneCell']) (by unfold maxLen; omega) (by omega) (by simp; omega) ?_
     intro v' w1 hown' hgrow _ hat
     have hown2 : w1.ownsRow W7.heap.size 9 1 v' (gtNames (m.f.gates.take (k + 1))).length (cellsL strC (gtNames (m.f.gates.take (k + 1)))) := by
      rw [HX.out, cellsL_snoc, List.length_append]
      exact hown'
     have hbb : Below W7.heap.size W7 w1 := (hb.alloc hb.size _).trans ((kept_of_grown hgrow).below (by simp; omega) (fun j hj => (HO.out.lt j hj).1))
     have HB := Lib.hid hbb
     have HW2 := Lib.hid hown2
     clear hown' hgrow hat hown2 hbb hb q3 y0
     go_wp2
     go_roundw
     case rel => exact ⟨k + 1, by omega, by go_num, HW2.out, HB.out⟩
     case measure => simp [intOf]; omega
    ·obtain rfl : k = m.f.gates.length := by omega
     have hi2 : ¬ (m.f.gates.length : Int) < (m.f.gates.length : Int) := by omega
     have hown := HO.out
     rw [List.take_length] at hown
     obtain ⟨b2, c2, rfl, hcap, _, hr, hnew⟩ := Lst.own strC_len hown
     have hr' := hr (by unfold gtNames; rw [List.length_map]; omega)
     have HR2 := Lib.hid hr'
     clear hcap hnew hr hr' hown HO
     have HR3 := Lib.hid (HR1.out.later hb)
     go_wp2
     go_ret2
     exact ⟨⟨_, _, _, ⟨_, rfl⟩, HR3.out, HR2.out⟩, hbw⟩
 
theorem c_rNamed (l : List ByteArray) (a : Option Addr) (cap : Nat) (w : World) (hl : Strs w a l) (hs : ∀ s ∈ l, s.size ≤ 1000000) :
  Calls Tryz.prog 111 #[.slice a l.length cap] w fun e w' => e = .returned (.bool (l.all nameB)) ∧ Below w.heap.size w w' := by
 have hlen := hl.1
 have HL := Lib.hid hl
 clear hl
 go_enter Tryz.func111, Tryz.ntmps111
 go_wp2
 go_loopw [3] (fun v3 wr => ∃ k : Nat, k ≤ l.length ∧ v3 = .int .i64 k ∧ l.all nameB = (l.drop k).all nameB ∧ Below w.heap.size w wr) (fun v3 _ => l.length - (intOf v3).toNat)
 case atStart => exact ⟨0, by omega, rfl, rfl, by go_grown⟩
 case round =>
  obtain ⟨k, hk, rfl, hi, hb⟩ := hrel
  have HI := Lib.hid hi
  clear hi
  by_cases hlt : k < l.length
  ·obtain ⟨x, hx⟩ := some_at hlt
   obtain ⟨b, o, rfl, hat⟩ := (HL.out.later hb).at hx
   rw [Nat.mul_one] at hat
   have y0 := str_cell hat
   have hst : (l.drop k).all nameB = (nameB x && (l.drop (k + 1)).all nameB) := by rw [drop_some hx, List.all_cons]
   have HS := Lib.hid hst
   have hi1 : ¬ (k : Int) < 0 := by omega
   have hi2 : (k : Int) < (l.length : Int) := by omega
   have hN := fun W => c_rName x W (hs x (some_mem hx))
   generalize hnb : nameB x = nb at *
   have HN := Lib.hid hN
   clear hx hat hst hN hs hnb
   go_wp2_with fail
   refine (HN.out _).mono ?_
   rintro e W1 ⟨rfl, hB⟩
   have HB := Lib.hid (bthen hb hB)
   clear hb hB y0
   cases nb
   ·go_wp2
    go_ret
    exact ⟨by rw [HI.out, HS.out]; rfl, HB.out⟩
   ·go_wp2
    go_roundw
    case rel => exact ⟨k + 1, by omega, by go_num, by rw [HI.out, HS.out, Bool.true_and], HB.out⟩
    case measure => simp [intOf]; omega
  ·obtain rfl : k = l.length := by omega
   have hi2 : ¬ (l.length : Int) < (l.length : Int) := by omega
   go_wp2
   go_ret
   exact ⟨by rw [HI.out, List.drop_length]; rfl, hb⟩
theorem c_rTwice (l : List ByteArray) (a : Option Addr) (cap : Nat) (w : World) (hl : Strs w a l) :
  Calls Tryz.prog 112 #[.slice a l.length cap] w fun e w' => e = .returned (.bool (twiceB l)) ∧ Below w.heap.size w w' := by
 have hlen := hl.1
 have HL := Lib.hid hl
 clear hl
 rw [← refTwice_all]
 go_enter Tryz.func112, Tryz.ntmps112
 go_wp2
 go_loopw [3] (fun v3 wr => ∃ k : Nat, k ≤ l.length ∧ v3 = .int .i64 k ∧ refTwice l k = false ∧ Below w.heap.size w wr) (fun v3 _ => l.length - (intOf v3).toNat)
 case atStart => exact ⟨0, by omega, rfl, rfl, by go_grown⟩
 case round =>
  obtain ⟨k, hk, rfl, hi, hb⟩ := hrel
  have HI := Lib.hid hi
  clear hi
  by_cases hlt : k < l.length
  ·obtain ⟨x, hx⟩ := some_at hlt
   have hst : refTwice l (k + 1) = (refTwice l k || decide (idxS l x < k)) := refTwice_step hx
   have hmo := fun h (hk : k + 1 ≤ l.length) => refTwice_mono (l := l) (k := k + 1) (n := l.length) h hk
   have hal := HL.out.later hb
   have hIX := fun W (hb2 : Below w.heap.size w W) => c_rIndex x l a cap W (HL.out.later hb2)
   obtain ⟨b, o, rfl, hat⟩ := hal.at hx
   rw [Nat.mul_one] at hat
   have y0 := str_cell hat
   have hi1 : ¬ (k : Int) < 0 := by omega
   have hi2 : (k : Int) < (l.length : Int) := by omega
   rw [HI.out, Bool.false_or] at hst
   generalize idxS l x = ix at *
   have HS := Lib.hid hst
   have HX := Lib.hid hIX
   have HMO := Lib.hid hmo
   clear hx hat hst hIX hal hmo
   go_wp2_with fail
   refine (HX.out _ hb).mono ?_
   rintro e W1 ⟨rfl, hB⟩
   have HB := Lib.hid (bthen hb hB)
   clear hb hB y0
   by_cases h0 : ix < (k : Int)
   ·go_wp2
    go_ret
    exact ⟨by rw [HMO.out (by rw [HS.out]; exact decide_eq_true h0) (by omega)]; rfl, HB.out⟩
   ·go_wp2
    go_roundw
    case rel => exact ⟨k + 1, by omega, by go_num, by rw [HS.out]; exact decide_eq_false (by omega), HB.out⟩
    case measure => simp [intOf]; omega
  ·obtain rfl : k = l.length := by omega
   have hi2 : ¬ (l.length : Int) < (l.length : Int) := by omega
   go_wp2
   go_ret
   exact ⟨by rw [HI.out]; rfl, hb⟩
structure Sized (f : Fe) : Prop where
 p : ∀ s ∈ plNames f.places, s.size ≤ 1000000
 g : ∀ s ∈ gtNames f.gates, s.size ≤ 1000000
def kindsK (f : Fe) (k : Nat) : Bool := (f.places.take k).all fun p => p.kind == 1 || p.kind == 2
def mostsK (f : Fe) (k : Nat) : Bool := (f.gates.take k).all fun g => rg 0 1000 g.most
def endsK (f : Fe) (k : Nat) : Bool := (f.gates.take k).any (endsBad f.places.length)
theorem kindsK_step {f : Fe} {k : Nat} {x : Pl} (h : f.places[k]? = some x) : kindsK f (k + 1) = (kindsK f k && (x.kind == 1 || x.kind == 2)) := by
 unfold kindsK
 rw [take_some h, List.all_append]
 simp
theorem mostsK_step {f : Fe} {k : Nat} {x : Gt} (h : f.gates[k]? = some x) : mostsK f (k + 1) = (mostsK f k && rg 0 1000 x.most) := by
 unfold mostsK
 rw [take_some h, List.all_append]
 simp
theorem endsK_step {f : Fe} {k : Nat} {x : Gt} (h : f.gates[k]? = some x) : endsK f (k + 1) = (endsK f k || endsBad f.places.length x) := by
 unfold endsK
 rw [take_some h, List.any_append]
 simp
theorem endsK_mono {f : Fe} {k : Nat} (h : endsK f k = true) : f.gates.any (endsBad f.places.length) = true := by
 unfold endsK at h
 obtain ⟨x, hx, hb⟩ := List.any_eq_true.1 h
 exact List.any_eq_true.2 ⟨x, List.mem_of_mem_take hx, hb⟩
def restE (f : Fe) : Int := if (rg 0 1000 f.yields && kindsK f f.places.length && mostsK f f.gates.length) = false then 1 else if f.gates.any (endsBad f.places.length) then 50 else 0
theorem rest_check {f : Fe} (ha : ¬ (8 < f.places.length ∨ 12 < f.gates.length ∨ 24 < f.ticks)) (hb : ¬ (f.places.length = 0 ∨ f.ticks < 1)) :
  checkE f = if ((plNames f.places).all nameB && (gtNames f.gates).all nameB) = false then 4 else if (twiceB (plNames f.places) || twiceB (gtNames f.gates)) = true then 6 else restE f := by
 unfold checkE restE kindsK mostsK
 rw [if_neg ha, if_neg hb, List.take_length, List.take_length, ends_any]
 have e1 : ∀ l : List ByteArray, l.any (fun s => !nameB s) = !l.all nameB := fun l => by rw [List.not_all_eq_any_not]
 have e2 : f.places.any (fun p => p.kind != 1 && p.kind != 2) = !f.places.all (fun p => p.kind == 1 || p.kind == 2) := by
  rw [List.not_all_eq_any_not]
  congr 1
  funext p
  rw [Bool.not_or]
  rfl
 have e3 : f.gates.any (fun g => !rg 0 1000 g.most) = !f.gates.all (fun g => rg 0 1000 g.most) := by rw [List.not_all_eq_any_not]
 rw [e1, e1, e2, e3]
 cases (plNames f.places).all nameB <;> cases (gtNames f.gates).all nameB <;> cases twiceB (plNames f.places) <;> cases twiceB (gtNames f.gates) <;> cases rg 0 1000 f.yields <;> cases f.places.all (fun p => p.kind == 1 || p.kind == 2) <;> cases f.gates.all (fun g => rg 0 1000 g.most) <;> simp
theorem c_rCheck_A1 (m : Fm) (w : World) (h : 8 < m.f.places.length) (hl : m.f.places.length ≤ 1000000000000) : Calls Tryz.prog 25 #[m.v] w fun e w' => e = .returned (.int .i64 2) ∧ Below w.heap.size w w' := by
 have h1 : (8 : Int) < (m.f.places.length : Int) := by omega
 go_enter Tryz.func25, Tryz.ntmps25
 go_upto_region 1 with (fail)
 go_name_world W1 hW1
 have hb0 : Below w.heap.size w W1 := by subst hW1; go_grown
 obtain ⟨q0, q1, q2, q3⟩ := (show QB m W1 w.heap.size from by subst hW1; and_intros <;> go_simp)
 clear hW1 
 go_wp2_with fail
 go_ret
 exact ⟨rfl, by have hbz := hb0.size; go_grown⟩
theorem c_rCheck_A2 (m : Fm) (w : World) (h : m.f.places.length ≤ 8) (h2 : 12 < m.f.gates.length) (hl : m.f.gates.length ≤ 1000000000000) : Calls Tryz.prog 25 #[m.v] w fun e w' => e = .returned (.int .i64 2) ∧ Below w.heap.size w w' := by
 have h1 : ¬ (8 : Int) < (m.f.places.length : Int) := by omega
 have h3 : (12 : Int) < (m.f.gates.length : Int) := by omega
 go_enter Tryz.func25, Tryz.ntmps25
 go_upto_region 1 with (fail)
 go_name_world W1 hW1
 have hb0 : Below w.heap.size w W1 := by subst hW1; go_grown
 obtain ⟨q0, q1, q2, q3⟩ := (show QB m W1 w.heap.size from by subst hW1; and_intros <;> go_simp)
 clear hW1 
 go_wp2_with fail
 go_ret
 exact ⟨rfl, by have hbz := hb0.size; go_grown⟩
theorem c_rCheck_A3 (m : Fm) (w : World) (h : m.f.places.length ≤ 8) (h2 : m.f.gates.length ≤ 12) (h5 : 24 < m.f.ticks) : Calls Tryz.prog 25 #[m.v] w fun e w' => e = .returned (.int .i64 2) ∧ Below w.heap.size w w' := by
 have h1 : ¬ (8 : Int) < (m.f.places.length : Int) := by omega
 have h3 : ¬ (12 : Int) < (m.f.gates.length : Int) := by omega
 go_enter Tryz.func25, Tryz.ntmps25
 go_upto_region 1 with (fail)
 go_name_world W1 hW1
 have hb0 : Below w.heap.size w W1 := by subst hW1; go_grown
 obtain ⟨q0, q1, q2, q3⟩ := (show QB m W1 w.heap.size from by subst hW1; and_intros <;> go_simp)
 clear hW1 
 go_wp2_with fail
 go_ret
 exact ⟨rfl, by have hbz := hb0.size; go_grown⟩
theorem c_rCheck_B1 (m : Fm) (w : World) (h2 : m.f.gates.length ≤ 12) (h5 : ¬ 24 < m.f.ticks) (hb : m.f.places.length = 0) : Calls Tryz.prog 25 #[m.v] w fun e w' => e = .returned (.int .i64 5) ∧ Below w.heap.size w w' := by
 have h1 : ¬ (8 : Int) < (m.f.places.length : Int) := by omega
 have h3 : ¬ (12 : Int) < (m.f.gates.length : Int) := by omega
 have h6 : ((m.f.places.length : Int) == 0) = true := beq_iff_eq.2 (by omega)
 go_enter Tryz.func25, Tryz.ntmps25
 go_upto_region 1 with (fail)
 go_name_world W1 hW1
 have hb0 : Below w.heap.size w W1 := by subst hW1; go_grown
 obtain ⟨q0, q1, q2, q3⟩ := (show QB m W1 w.heap.size from by subst hW1; and_intros <;> go_simp)
 clear hW1 
 go_wp2_with fail
 go_ret
 exact ⟨rfl, by have hbz := hb0.size; go_grown⟩
theorem c_rCheck_B2 (m : Fm) (w : World) (h : m.f.places.length ≤ 8) (h2 : m.f.gates.length ≤ 12) (h5 : ¬ 24 < m.f.ticks) (hb : m.f.places.length ≠ 0) (h7 : m.f.ticks < 1) : Calls Tryz.prog 25 #[m.v] w fun e w' => e = .returned (.int .i64 5) ∧ Below w.heap.size w w' := by
 have h1 : ¬ (8 : Int) < (m.f.places.length : Int) := by omega
 have h3 : ¬ (12 : Int) < (m.f.gates.length : Int) := by omega
 have h6 : ((m.f.places.length : Int) == 0) = false := beq_eq_false_iff_ne.2 (by omega)
 go_enter Tryz.func25, Tryz.ntmps25
 go_upto_region 1 with (fail)
 go_name_world W1 hW1
 have hb0 : Below w.heap.size w W1 := by subst hW1; go_grown
 obtain ⟨q0, q1, q2, q3⟩ := (show QB m W1 w.heap.size from by subst hW1; and_intros <;> go_simp)
 clear hW1 
 go_wp2_with fail
 go_ret
 exact ⟨rfl, by have hbz := hb0.size; go_grown⟩
theorem c_rCheck_C (m : Fm) (w : World) (hm : m.In w) (hz : Sized m.f) (h : m.f.places.length ≤ 8) (h2 : m.f.gates.length ≤ 12) (h5 : ¬ 24 < m.f.ticks) (hb : m.f.places.length ≠ 0) (h7 : ¬ m.f.ticks < 1) : Calls Tryz.prog 25 #[m.v] w fun e w' => e = .returned (.int .i64 (if ((plNames m.f.places).all nameB && (gtNames m.f.gates).all nameB) = false then 4 else if (twiceB (plNames m.f.places) || twiceB (gtNames m.f.gates)) = true then 6 else restE m.f)) ∧ Below w.heap.size w w' := by
 have h1 : ¬ (8 : Int) < (m.f.places.length : Int) := by omega
 have h3 : ¬ (12 : Int) < (m.f.gates.length : Int) := by omega
 have h6 : ((m.f.places.length : Int) == 0) = false := beq_eq_false_iff_ne.2 (by omega)
 have hN := fun W (hb : Below w.heap.size w W) => c_rNames m W (hm.later hb)
 have hn1 := fun a c W (hl : Strs W a (plNames m.f.places)) => c_rNamed (plNames m.f.places) a c W hl hz.p
 have hn2 := fun a c W (hl : Strs W a (gtNames m.f.gates)) => c_rNamed (gtNames m.f.gates) a c W hl hz.g
 have ht1 := fun a c W (hl : Strs W a (plNames m.f.places)) => c_rTwice (plNames m.f.places) a c W hl
 have ht2 := fun a c W (hl : Strs W a (gtNames m.f.gates)) => c_rTwice (gtNames m.f.gates) a c W hl
 generalize hP : plNames m.f.places = P at *
 generalize hG : gtNames m.f.gates = G at *
 generalize P.all nameB = n1 at *
 generalize G.all nameB = n2 at *
 generalize twiceB P = t1 at *
 generalize twiceB G = t2 at *
 have HN := Lib.hid hN
 have N1 := Lib.hid hn1
 have N2 := Lib.hid hn2
 have T1 := Lib.hid ht1
 have T2 := Lib.hid ht2
 have HM := Lib.hid hm
 clear hN hn1 hn2 ht1 ht2 hm hz hb hP hG
 go_enter Tryz.func25, Tryz.ntmps25
 go_upto_region 1 with (fail)
 go_name_world W1 hW1
 have hb0 : Below w.heap.size w W1 := by subst hW1; go_grown
 obtain ⟨q0, q1, q2, q3⟩ := (show QB m W1 w.heap.size from by subst hW1; and_intros <;> go_simp)
 clear hW1 
 go_wp2_with fail
 refine (HN.out _ hb0).mono ?_
 rintro E W2 ⟨⟨b1, c1, b2, c2, rfl, s1, s2⟩, hB⟩
 have hc := (bcell hB).1
 have zz := cy4 hc q0 q1 q2 q3
 clear q0 q1 q2 q3
 obtain ⟨q0, q1, q2, q3⟩ := zz
 replace hb0 := bthen hb0 hB
 clear hc hB
 go_wp2_with fail
 refine (N1.out _ _ _ s1).mono ?_
 rintro E W3 ⟨rfl, hB⟩
 have hc := (bcell hB).1
 have zz := cy4 hc q0 q1 q2 q3
 clear q0 q1 q2 q3
 obtain ⟨q0, q1, q2, q3⟩ := zz
 replace s1 := s1.later hB
 replace s2 := s2.later hB
 replace hb0 := bthen hb0 hB
 clear hc hB
 go_wp2_with fail
 refine (N2.out _ _ _ s2).mono ?_
 rintro E W4 ⟨rfl, hB⟩
 have hc := (bcell hB).1
 have zz := cy4 hc q0 q1 q2 q3
 clear q0 q1 q2 q3
 obtain ⟨q0, q1, q2, q3⟩ := zz
 replace s1 := s1.later hB
 replace s2 := s2.later hB
 replace hb0 := bthen hb0 hB
 clear hc hB
 cases n1
 ·clear s1 s2
  go_wp2
  go_ret
  exact ⟨rfl, hb0⟩
 cases n2
 ·clear s1 s2
  go_wp2
  go_ret
  exact ⟨rfl, hb0⟩
 go_wp2_with fail
 refine (T1.out _ _ _ s1).mono ?_
 rintro E W5 ⟨rfl, hB⟩
 have hc := (bcell hB).1
 have zz := cy4 hc q0 q1 q2 q3
 clear q0 q1 q2 q3
 obtain ⟨q0, q1, q2, q3⟩ := zz
 replace s1 := s1.later hB
 replace s2 := s2.later hB
 replace hb0 := bthen hb0 hB
 clear hc hB
 go_wp2_with fail
 refine (T2.out _ _ _ s2).mono ?_
 rintro E W6 ⟨rfl, hB⟩
 have hc := (bcell hB).1
 have zz := cy4 hc q0 q1 q2 q3
 clear q0 q1 q2 q3
 obtain ⟨q0, q1, q2, q3⟩ := zz
 replace hb0 := bthen hb0 hB
 clear hc hB
 clear s1 s2 HN N1 N2 T1 T2
 cases t1
 case true =>
  go_wp2
  go_ret
  exact ⟨rfl, hb0⟩
 cases t2
 case true =>
  go_wp2
  go_ret
  exact ⟨rfl, hb0⟩
 go_wp2_with fail
 refine (c_rWithin _ _ _ _).mono ?_
 rintro E W7 ⟨rfl, hB⟩
 have hc := (bcell hB).1
 have zz := cy4 hc q0 q1 q2 q3
 clear q0 q1 q2 q3
 obtain ⟨q0, q1, q2, q3⟩ := zz
 replace hb0 := bthen hb0 hB
 clear hc hB
 have HQ0 := Lib.hid (show CellsAt W7 w.heap.size 0 (feC m) from cells_4 q0 q1 q2 q3)
 obtain ⟨y0, hy0⟩ : ∃ t, rg 0 1000 m.f.yields = t := ⟨_, rfl⟩
 rw [hy0]
 have hre : restE m.f = if (y0 && kindsK m.f m.f.places.length && mostsK m.f m.f.gates.length) = false then 1 else if m.f.gates.any (endsBad m.f.places.length) then 50 else 0 := by unfold restE; rw [hy0]
 have HRE := Lib.hid hre
 clear q0 q1 q2 q3 hy0 hre
 go_wp2
 go_loopw [7, 8] (fun v7 v8 wr => ∃ k : Nat, k ≤ m.f.places.length ∧ v8 = .int .i64 k ∧ v7 = .bool (y0 && kindsK m.f k) ∧ Below w.heap.size w wr ∧ CellsAt wr w.heap.size 0 (feC m)) (fun _ v8 _ => m.f.places.length - (intOf v8).toNat)
 case atStart => exact ⟨0, by omega, rfl, by rw [show kindsK m.f 0 = true from rfl, Bool.and_true], hb0, HQ0.out⟩
 case round =>
  obtain ⟨k, hk, rfl, rfl, hb, hq⟩ := hrel
  have HQ := Lib.hid hq
  obtain ⟨q0, q1, q2, q3⟩ := fe_cells hq
  clear hq
  by_cases hlt : k < m.f.places.length
  ·obtain ⟨x, hx⟩ := some_at hlt
   have hi1 : ¬ (k : Int) < 0 := by omega
   have hi2 : (k : Int) < (m.f.places.length : Int) := by omega
   obtain ⟨b, o, hpa, hat⟩ := (HM.out.later hb).pl.at hx
   rw [hpa] at q2
   obtain ⟨z0, z1⟩ := pl_cells hat
   have hst := kindsK_step hx
   obtain ⟨kk, hkk⟩ : ∃ t, (y0 && kindsK m.f k) = t := ⟨_, rfl⟩
   have hst2 : (y0 && kindsK m.f (k + 1)) = (kk && (x.kind == 1 || x.kind == 2)) := by rw [hst, ← Bool.and_assoc, hkk]
   rw [hkk]
   clear hx hat hpa hst hkk z0
   cases kk
   ·have HS := Lib.hid hst2
    clear hst2 z1
    go_wp2
    go_roundw
    case rel => exact ⟨k + 1, by omega, by go_num, by first | (rw [HS.out]; rfl) | rw [HS.out], hb, HQ.out⟩
    case measure => simp [intOf]; omega
   ·obtain ⟨d1, hd1⟩ : ∃ t, (x.kind == 1) = t := ⟨_, rfl⟩
    obtain ⟨d2, hd2⟩ : ∃ t, (x.kind == 2) = t := ⟨_, rfl⟩
    rw [hd1, hd2] at hst2
    have HS := Lib.hid hst2
    clear hst2
    cases d1
    ·cases d2
     ·go_wp2
      go_roundw
      case rel => exact ⟨k + 1, by omega, by go_num, by first | (rw [HS.out]; rfl) | rw [HS.out], hb, HQ.out⟩
      case measure => simp [intOf]; omega
     ·go_wp2
      go_roundw
      case rel => exact ⟨k + 1, by omega, by go_num, by first | (rw [HS.out]; rfl) | rw [HS.out], hb, HQ.out⟩
      case measure => simp [intOf]; omega
    ·go_wp2
     go_roundw
     case rel => exact ⟨k + 1, by omega, by go_num, by first | (rw [HS.out]; rfl) | rw [HS.out], hb, HQ.out⟩
     case measure => simp [intOf]; omega
  ·obtain rfl : k = m.f.places.length := by omega
   have hi2 : ¬ (m.f.places.length : Int) < (m.f.places.length : Int) := by omega
   obtain ⟨Y, hYd⟩ : ∃ t, (y0 && kindsK m.f m.f.places.length) = t := ⟨_, rfl⟩
   rw [hYd]
   go_wp2
   clear q0 q1 q2 q3
   go_loopw [7, 9] (fun v7 v9 wr => ∃ k : Nat, k ≤ m.f.gates.length ∧ v9 = .int .i64 k ∧ v7 = .bool (Y && mostsK m.f k) ∧ Below w.heap.size w wr ∧ CellsAt wr w.heap.size 0 (feC m)) (fun _ v9 _ => m.f.gates.length - (intOf v9).toNat)
   case atStart => exact ⟨0, by omega, rfl, by rw [show mostsK m.f 0 = true from rfl, Bool.and_true], hb, HQ.out⟩
   case round =>
    obtain ⟨k, hk, rfl, rfl, hb, hq⟩ := hrel
    have HQ := Lib.hid hq
    obtain ⟨q0, q1, q2, q3⟩ := fe_cells hq
    clear hq
    by_cases hlt : k < m.f.gates.length
    ·obtain ⟨x, hx⟩ := some_at hlt
     have hi1 : ¬ (k : Int) < 0 := by omega
     have hi2 : (k : Int) < (m.f.gates.length : Int) := by omega
     obtain ⟨b, o, hpa, hat⟩ := (HM.out.later hb).gt.at hx
     rw [hpa] at q3
     obtain ⟨y0, y1, y2, y3⟩ := gt_cells hat
     have hst := mostsK_step hx
     obtain ⟨mk, hmk⟩ : ∃ t, (Y && mostsK m.f k) = t := ⟨_, rfl⟩
     have hst2 : (Y && mostsK m.f (k + 1)) = (mk && rg 0 1000 x.most) := by rw [hst, ← Bool.and_assoc, hmk]
     rw [hmk]
     have HS := Lib.hid hst2
     clear hx hat hpa hst hst2 hmk y0 y1 y2
     cases mk
     ·clear y3
      go_wp2
      go_roundw
      case rel => exact ⟨k + 1, by omega, by go_num, by first | (rw [HS.out]; rfl) | rw [HS.out], hb, HQ.out⟩
      case measure => simp [intOf]; omega
     ·go_wp2_with fail
      refine (c_rWithin _ _ _ _).mono ?_
      rintro E W19 ⟨rfl, hB⟩
      replace hb := bthen hb hB
      have HQ2 := Lib.hid (HQ.out.later hB)
      obtain ⟨q0, q1, q2, q3⟩ := fe_cells HQ2.out
      clear hB y3 HQ
      have HQ := HQ2
      clear HQ2
      go_wp2
      go_roundw
      case rel => exact ⟨k + 1, by omega, by go_num, by first | (rw [HS.out]; rfl) | rw [HS.out], hb, HQ.out⟩
      case measure => simp [intOf]; omega
    ·obtain rfl : k = m.f.gates.length := by omega
     have hi2 : ¬ (m.f.gates.length : Int) < (m.f.gates.length : Int) := by omega
     obtain ⟨V, hV⟩ : ∃ t, (Y && mostsK m.f m.f.gates.length) = t := ⟨_, rfl⟩
     rw [hV]
     have hrv := HRE.out
     rw [hYd, hV] at hrv
     have HRV := Lib.hid hrv
     clear hrv hYd hV HRE
     cases V
     ·go_wp2
      go_ret
      exact ⟨by rw [HRV.out]; rfl, hb⟩
     ·go_wp2
      clear q0 q1 q2 q3
      go_loopw [10] (fun v10 wr => ∃ k : Nat, k ≤ m.f.gates.length ∧ v10 = .int .i64 k ∧ endsK m.f k = false ∧ Below w.heap.size w wr ∧ CellsAt wr w.heap.size 0 (feC m)) (fun v10 _ => m.f.gates.length - (intOf v10).toNat)
      case atStart => exact ⟨0, by omega, rfl, rfl, hb, HQ.out⟩
      case round =>
       obtain ⟨k, hk, rfl, he, hb, hq⟩ := hrel
       have HQ := Lib.hid hq
       obtain ⟨q0, q1, q2, q3⟩ := fe_cells hq
       clear hq
       by_cases hlt : k < m.f.gates.length
       ·obtain ⟨x, hx⟩ := some_at hlt
        have hi1 : ¬ (k : Int) < 0 := by omega
        have hi2 : (k : Int) < (m.f.gates.length : Int) := by omega
        obtain ⟨b, o, hpa, hat⟩ := (HM.out.later hb).gt.at hx
        rw [hpa] at q3
        obtain ⟨y0, y1, y2, y3⟩ := gt_cells hat
        have hst := endsK_step hx
        rw [he, Bool.false_or] at hst
        have hmo := fun h => endsK_mono (f := m.f) (k := k + 1) h
        unfold endsBad at hst
        obtain ⟨r1, hr1⟩ : ∃ t, rg 0 ((m.f.places.length : Int) - 1) x.a = t := ⟨_, rfl⟩
        obtain ⟨r2, hr2⟩ : ∃ t, rg 0 ((m.f.places.length : Int) - 1) x.b = t := ⟨_, rfl⟩
        obtain ⟨r3, hr3⟩ : ∃ t, (x.a == x.b) = t := ⟨_, rfl⟩
        have hc1 := fun W => c_rWithin x.a 0 ((m.f.places.length : Int) - 1) W
        have hc2 := fun W => c_rWithin x.b 0 ((m.f.places.length : Int) - 1) W
        rw [hr1, hr2, hr3] at hst
        simp only [hr1] at hc1
        simp only [hr2] at hc2
        have C1 := Lib.hid hc1
        have C2 := Lib.hid hc2
        have h50 : ∀ (h : (!r1 || !r2 || r3) = true), restE m.f = 50 := fun h => by rw [HRV.out, hmo (hst.trans h)]; rfl
        have H50 := Lib.hid h50
        have HS := Lib.hid hst
        clear hx hat hpa hst he hmo hc1 hc2 h50 hr1 hr2
        go_upto_region 29 with (fail)
        go_name_world W20 hW20
        have hB : Below wr.heap.size wr W20 := by subst hW20; go_grown
        have g1 : W20.cell? ⟨wr.heap.size, 1, none⟩ = some (.int .i64 x.a) := by subst hW20; go_simp
        have g2 : W20.cell? ⟨wr.heap.size, 2, none⟩ = some (.int .i64 x.b) := by subst hW20; go_simp
        clear hW20 y0 y1 y2 y3 q0 q1 q3
        replace q2 := later_of hB q2
        replace hb := bthen hb hB
        have HQ2 := Lib.hid (HQ.out.later hB)
        clear hB HQ
        go_wp2_with fail
        refine (C1.out _).mono ?_
        rintro E W21 ⟨rfl, hB⟩
        have zz := cl3 hB q2 g1 g2
        clear q2 g1 g2
        obtain ⟨q2, g1, g2⟩ := zz
        replace hb := bthen hb hB
        have HQ3 := Lib.hid (HQ2.out.later hB)
        clear hB HQ2 C1
        cases r1
        ·go_wp2
         go_ret
         exact ⟨by rw [H50.out rfl]; rfl, hb⟩
        ·go_wp2_with fail
         refine (C2.out _).mono ?_
         rintro E W22 ⟨rfl, hB⟩
         replace g1 := later_of hB g1
         replace g2 := later_of hB g2
         replace hb := bthen hb hB
         have HQ := Lib.hid (HQ3.out.later hB)
         clear hB HQ3 C2 q2
         cases r2
         ·go_wp2
          go_ret
          exact ⟨by rw [H50.out rfl]; rfl, hb⟩
         ·cases r3
          ·go_wp2
           go_roundw
           case rel => exact ⟨k + 1, by omega, by go_num, by rw [HS.out]; rfl, hb, HQ.out⟩
           case measure => simp [intOf]; omega
          ·go_wp2
           go_ret
           exact ⟨by rw [H50.out rfl]; rfl, hb⟩
       ·obtain rfl : k = m.f.gates.length := by omega
        have hi2 : ¬ (m.f.gates.length : Int) < (m.f.gates.length : Int) := by omega
        have HE := Lib.hid he
        clear he
        go_wp2
        go_ret
        refine ⟨?_, hb⟩
        have := HE.out
        unfold endsK at this
        rw [List.take_length] at this
        rw [HRV.out, this]
        rfl
 
theorem c_rCheck (m : Fm) (w : World) (hm : m.In w) (hz : Sized m.f) : Calls Tryz.prog 25 #[m.v] w fun e w' => e = .returned (.int .i64 (checkE m.f)) ∧ Below w.heap.size w w' := by
 by_cases ha : 8 < m.f.places.length ∨ 12 < m.f.gates.length ∨ 24 < m.f.ticks
 ·rw [show checkE m.f = 2 from if_pos ha]
  by_cases ha1 : 8 < m.f.places.length
  ·exact c_rCheck_A1 m w ha1 hm.pl.1
  ·by_cases ha2 : 12 < m.f.gates.length
   ·exact c_rCheck_A2 m w (by omega) ha2 hm.gt.1
   ·exact c_rCheck_A3 m w (by omega) (by omega) (by omega)
 ·by_cases hb : m.f.places.length = 0 ∨ m.f.ticks < 1
  ·rw [show checkE m.f = 5 from (if_neg ha).trans (if_pos hb)]
   by_cases hb1 : m.f.places.length = 0
   ·exact c_rCheck_B1 m w (by omega) (by omega) hb1
   ·exact c_rCheck_B2 m w (by omega) (by omega) (by omega) hb1 (by omega)
  ·rw [rest_check ha hb]
   exact c_rCheck_C m w hm hz (by omega) (by omega) (by omega) (by omega) (by omega)
theorem tick_mul {t : Int} {P : Nat} (h0 : 0 ≤ t) (h1 : t ≤ 25) (hP : P ≤ 8) : 0 ≤ t * (P : Int) ∧ t * (P : Int) ≤ 200 := by
 have h2 : t * (P : Int) ≤ 25 * 8 := Int.mul_le_mul h1 (by omega) (by omega) (by omega)
 exact ⟨Int.mul_nonneg h0 (by omega), by omega⟩
theorem c_rArriving (m : Fm) (p t : Int) (w : World) (hp : 0 ≤ p ∧ p ≤ 8) (ht : 0 ≤ t ∧ t ≤ 25) (hP : m.f.places.length ≤ 8) : Calls Tryz.prog 188 #[m.v, .int .i64 p, .int .i64 t] w fun e w' => e = .returned (.int .i64 (nodeN m.f p t)) ∧ Below w.heap.size w w' := by
 obtain ⟨z0, z1⟩ := tick_mul ht.1 ht.2 hP
 unfold nodeN
 go_enter Tryz.func188, Tryz.ntmps188
 go_upto_region 1 with (fail)
 go_name_world W1 hW1
 have hb0 : Below w.heap.size w W1 := by subst hW1; go_grown
 obtain ⟨q0, q1, q2, q3⟩ := (show QB m W1 w.heap.size from by subst hW1; and_intros <;> go_simp)
 clear hW1 
 go_wp2
 go_ret
 exact ⟨by go_num, hb0⟩
theorem c_rLeaving (m : Fm) (p t : Int) (w : World) (hp : 0 ≤ p ∧ p ≤ 8) (ht : 0 ≤ t ∧ t ≤ 25) (hP : m.f.places.length ≤ 8) : Calls Tryz.prog 189 #[m.v, .int .i64 p, .int .i64 t] w fun e w' => e = .returned (.int .i64 (nodeN m.f p t + 1)) ∧ Below w.heap.size w w' := by
 obtain ⟨z0, z1⟩ := tick_mul ht.1 ht.2 hP
 have hA := fun W => c_rArriving m p t W hp ht hP
 have hn : 0 ≤ nodeN m.f p t ∧ nodeN m.f p t ≤ 1000 := by unfold nodeN; omega
 generalize nodeN m.f p t = n at *
 have HA := Lib.hid hA
 clear hA
 go_enter Tryz.func189, Tryz.ntmps189
 go_upto_region 1 with (fail)
 go_name_world W1 hW1
 have hb0 : Below w.heap.size w W1 := by subst hW1; go_grown
 obtain ⟨q0, q1, q2, q3⟩ := (show QB m W1 w.heap.size from by subst hW1; and_intros <;> go_simp)
 clear hW1 
 go_wp2_with fail
 refine (HA.out _).mono ?_
 rintro E W5 ⟨rfl, hB⟩
 have hbn := bthen hb0 hB
 go_wp2
 go_ret
 exact ⟨by go_num, hbn⟩
def Wy.v (y : Wy) : Value := .agg #[.int .i64 y.arc.src, .int .i64 y.arc.dst, .int .i64 y.arc.low, .int .i64 y.arc.high, .int .i64 y.arc.lowBy, .int .i64 y.arc.highBy, .string y.kind, .string y.name, .int .i64 y.plc, .int .i64 y.tick]
theorem c_rWay (src dst high plc tick : Int) (kind name : ByteArray) (w : World) : Calls Tryz.prog 187 #[.int .i64 src, .int .i64 dst, .int .i64 high, .string kind, .string name, .int .i64 plc, .int .i64 tick] w fun e w' => e = .returned (wyOf src dst high kind name plc tick).v ∧ Below w.heap.size w w' := by
 go_enter Tryz.func187, Tryz.ntmps187
 go_wp2
 refine bodyPost_ret (v := (wyOf src dst high kind name plc tick).v) (by simp [results, Tryz.results187, go_sem, Wy.v, wyOf]) rfl ⟨rfl, by go_grown⟩
end Go.Proofs.YtlppdgaogdpajaaGreatDoor
