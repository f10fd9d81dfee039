/- This text is a part of the proof: Fells, Twice. -/
import Derived.Test.YtlppdgaogdpajaaGreatDoorK3
set_option maxRecDepth 100000
set_option maxHeartbeats 2000000
namespace Go.Proofs.YtlppdgaogdpajaaGreatDoor
open Go.RowKit Go.Shelf
attribute [local go_sem] Oper.semAt_some
structure Fm where
 f : Fe
 pa : Option Addr
 pc : Nat
 ga : Option Addr
 gc : Nat
abbrev Fm.v (m : Fm) : Value := .agg #[.int .i64 m.f.ticks, .int .i64 m.f.yields, .slice m.pa m.f.places.length m.pc, .slice m.ga m.f.gates.length m.gc]
abbrev QB (m : Fm) (w : World) (b : Nat) : Prop := w.cell? ⟨b, 0, none⟩ = some (.int .i64 m.f.ticks) ∧ w.cell? ⟨b, 1, none⟩ = some (.int .i64 m.f.yields) ∧ w.cell? ⟨b, 2, none⟩ = some (.slice m.pa m.f.places.length m.pc) ∧ w.cell? ⟨b, 3, none⟩ = some (.slice m.ga m.f.gates.length m.gc)
structure Fm.In (m : Fm) (w : World) : Prop where
 pl : Pls w m.pa m.f.places
 gt : Gts w m.ga m.f.gates
theorem Fm.In.later {m : Fm} {w w1 : World} (h : m.In w) (hb : Below w.heap.size w w1) : m.In w1 := ⟨h.pl.later hb, h.gt.later hb⟩
theorem rg_no {lo hi n : Int} (h : ¬ lo ≤ n ∨ ¬ n ≤ hi) : rg lo hi n = false := by
 cases hr : rg lo hi n with
 | false => rfl
 | true => have := rg_iff.1 hr; omega
theorem c_in (n lo hi : Int) (w : World) : Calls Tryz.prog 100 #[.int .i64 n, .int .i64 lo, .int .i64 hi] w fun e w' => e = .returned (.bool (rg lo hi n)) ∧ w = w' := by
 by_cases h1 : lo ≤ n
 ·by_cases h2 : n ≤ hi
  ·rw [show rg lo hi n = true from rg_iff.2 ⟨h1, h2⟩]
   go_enter Tryz.func100, Tryz.ntmps100
   go_wp2
   go_ret
   exact ⟨rfl, rfl⟩
  ·rw [show rg lo hi n = false from rg_no (.inr h2)]
   go_enter Tryz.func100, Tryz.ntmps100
   go_wp2
   go_ret
   exact ⟨rfl, rfl⟩
 ·rw [show rg lo hi n = false from rg_no (.inl h1)]
  go_enter Tryz.func100, Tryz.ntmps100
  go_wp2
  go_ret
  exact ⟨rfl, rfl⟩
def badN (n : Nat) : Bool := (decide (n < 97) || decide (122 < n)) && (decide (n < 48) || decide (57 < n)) && n != 45
theorem bad_byte (c : UInt8) (w : World) : Calls Tryz.prog 171 #[.int .u8 (c.toNat : Int)] w fun e w' => e = .returned (.bool (badC c)) ∧ w = w' := by
  have hn : c.toNat < 256 := c.toNat_lt
  have hb : badC c = badN c.toNat := rfl
  rw [hb]
  clear hb
  generalize c.toNat = n at *
  have hv : badN n = true ↔ (n < 97 ∨ 122 < n) ∧ (n < 48 ∨ 57 < n) ∧ n ≠ 45 := by simp [badN, and_assoc]
  by_cases h5 : n = 45
  · have hx : badN n = false := by rw [h5]; rfl
    rw [hx]
    have h1 : (n : Int) < 97 := by omega
    have h3 : (n : Int) < 48 := by omega
    have h5' : ((n : Int) != 45) = false := by rw [h5]; rfl
    clear hx hv h5 hn
    go_enter Tryz.func171, Tryz.ntmps171
    go_wp2
    go_ret
    exact ⟨rfl, rfl⟩
  · have h5' : ((n : Int) != 45) = true := bne_iff_ne.2 (by omega)
    cases hx : badN n
    · have hv' : ¬ ((n < 97 ∨ 122 < n) ∧ (n < 48 ∨ 57 < n) ∧ n ≠ 45) := fun h => by rw [hv.2 h] at hx; cases hx
      by_cases h1 : (n : Int) < 97 <;> by_cases h2 : (122 : Int) < (n : Int) <;> by_cases h3 : (n : Int) < 48 <;> by_cases h4 : (57 : Int) < (n : Int)
      all_goals first
        | (exfalso; omega)
        | (clear hx hv hv' h5 hn
           go_enter Tryz.func171, Tryz.ntmps171
           go_wp2
           go_ret
           exact ⟨rfl, rfl⟩)
    · have hv' := hv.1 hx
      by_cases h1 : (n : Int) < 97 <;> by_cases h2 : (122 : Int) < (n : Int) <;> by_cases h3 : (n : Int) < 48 <;> by_cases h4 : (57 : Int) < (n : Int)
      all_goals first
        | (exfalso; omega)
        | (clear hx hv hv' h5 hn
           go_enter Tryz.func171, Tryz.ntmps171
           go_wp2
           go_ret
           exact ⟨rfl, rfl⟩)
theorem nameB_size {s : ByteArray} (h : nameB s = true) : 1 ≤ s.size ∧ s.size ≤ 24 := by
 unfold nameB at h
 have e : s.size = s.data.toList.length := Array.length_toList.symm
 rw [e]
 cases hl : s.data.toList with
 | nil => rw [hl] at h; cases h
 | cons c r =>
  rw [hl] at h
  simp only [nameL, Bool.and_eq_true, decide_eq_true_eq] at h
  simp
  omega
theorem nameB_of {s : ByteArray} (h0 : 0 < s.size) (h1 : s.size ≤ 24) : nameB s = (decide (97 ≤ s[0].toNat) && decide (s[0].toNat ≤ 122) && !s.data.toList.any badC) := by
 have e : s.data.toList = s[0] :: s.data.toList.drop 1 := by
  have h : 0 < s.data.toList.length := by simpa using h0
  conv => lhs; rw [← List.drop_zero (l := s.data.toList), List.drop_eq_getElem_cons h]
  rfl
 have hl : (s.data.toList.drop 1).length < 24 := by simp; have : s.size = s.data.size := rfl; omega
 unfold nameB
 rw [e]
 simp only [nameL]
 rw [decide_eq_true hl, Bool.true_and]
theorem nameB_out {s : ByteArray} (h : s.size = 0 ∨ 24 < s.size) : nameB s = false := by
 cases hn : nameB s with
 | false => rfl
 | true => have := nameB_size hn; omega
theorem bytes_new (w : World) (s : ByteArray) : Bytes (Lib.bytesWorld w 5 s) (some ⟨w.heap.size, 0, none⟩) s.data.toList ∨ 1000000000000 < s.size := by
  rcases Nat.lt_or_ge 1000000000000 s.size with h | h
  · exact .inr h
  · refine .inl ⟨by have e : s.size = s.data.toList.length := Array.length_toList.symm
                    omega, fun _ => ⟨w.heap.size, 0, rfl, fun k x hx j u hu => ?_⟩⟩
    have hk : k < s.size := by have := some_lt hx; simpa using this
    match j, hu with
    | 0, hu =>
      have hu : Value.int .u8 (x.toNat : Int) = u := Option.some.inj hu
      subst hu
      have := Lib.bytesWorld_cell w 5 s k hk
      rw [List.getD, hx] at this
      simpa using this
    | j + 1, hu => simp [byteC] at hu
theorem c_isName (s : ByteArray) (w : World) : Calls Tryz.prog 98 #[.string s] w fun e w' => e = .returned (.bool (nameB s)) ∧ Below w.heap.size w w' := by
 by_cases h : s.size = 0 ∨ 24 < s.size
 ·rw [nameB_out h]
  have hr : rg 1 24 s.size = false := by
   cases hr : rg 1 24 s.size with
   | false => rfl
   | true => have := rg_iff.1 hr; omega
  have HR := Lib.hid hr
  clear hr h
  go_enter Tryz.func98, Tryz.ntmps98
  go_wp2_with fail
  refine (c_in _ _ _ _).mono ?_
  rw [HR.out]
  rintro e w' ⟨rfl, rfl⟩
  go_wp2
  go_ret
  exact ⟨rfl, Below.refl _ _⟩
 ·have h0 : 0 < s.size := by omega
  have h1 : s.size ≤ 24 := by omega
  have hr : rg 1 24 s.size = true := rg_iff.2 ⟨by omega, by omega⟩
  rw [nameB_of h0 h1]
  have HR := Lib.hid hr
  clear hr h
  by_cases ha : (s[0].toNat : Int) < 97
  ·have hv : (decide (97 ≤ s[0].toNat) && decide (s[0].toNat ≤ 122) && !s.data.toList.any badC) = false := by
    have : decide (97 ≤ s[0].toNat) = false := decide_eq_false (by omega)
    rw [this]
    rfl
   rw [hv]
   clear hv
   go_enter Tryz.func98, Tryz.ntmps98
   go_wp2_with fail
   refine (c_in _ _ _ _).mono ?_
   rw [HR.out]
   rintro e w' ⟨rfl, rfl⟩
   go_wp2
   go_ret
   exact ⟨rfl, Below.refl _ _⟩
  ·by_cases hz : (122 : Int) < (s[0].toNat : Int)
   ·have hv : (decide (97 ≤ s[0].toNat) && decide (s[0].toNat ≤ 122) && !s.data.toList.any badC) = false := by
     have : decide (s[0].toNat ≤ 122) = false := decide_eq_false (by omega)
     rw [this, Bool.and_false]
     rfl
    rw [hv]
    clear hv
    go_enter Tryz.func98, Tryz.ntmps98
    go_wp2_with fail
    refine (c_in _ _ _ _).mono ?_
    rw [HR.out]
    rintro e w' ⟨rfl, rfl⟩
    go_wp2
    go_ret
    exact ⟨rfl, Below.refl _ _⟩
   ·have hv : (decide (97 ≤ s[0].toNat) && decide (s[0].toNat ≤ 122) && !s.data.toList.any badC) = !s.data.toList.any badC := by
     have h1 : decide (97 ≤ s[0].toNat) = true := decide_eq_true (by omega)
     have h2 : decide (s[0].toNat ≤ 122) = true := decide_eq_true (by omega)
     rw [h1, h2]
     rfl
    rw [hv]
    have hconv := fun w0 : World => Lib.run_convert_string_bytes w0 9 185 5 s Tryz.underlying9 Tryz.underlying185 Tryz.underlying5
    have hnew := bytes_new w s
    have hbw : Below w.heap.size w (Lib.bytesWorld w 5 s) := Joins.below_bytesWorld _ _ _ _ (Nat.le_refl _)
    have HN := Lib.hid (hnew.resolve_right (by omega))
    have HB := Lib.hid hbw
    have hlen : s.data.toList.length = s.size := Array.length_toList
    have HL := Lib.hid hlen
    clear hv hnew hbw hlen
    have hany := fun cap => c_anyByte 171 (enters_of Tryz.func171 (by kernel_rfl) rfl) #[] badC s.data.toList (some ⟨w.heap.size, 0, none⟩) cap (Lib.bytesWorld w 5 s) (fun W x _ _ => (bad_byte x W).mono fun e w' ⟨he, hw⟩ => ⟨he, hw ▸ Below.refl _ _⟩) HN.out
    rw [HL.out] at hany
    obtain ⟨B, hB⟩ : ∃ B, s.data.toList.any badC = B := ⟨_, rfl⟩
    rw [hB] at hany ⊢
    clear hB
    have HA := Lib.hid hany
    clear hany
    go_enter Tryz.func98, Tryz.ntmps98
    go_wp2_with fail
    refine (c_in _ _ _ _).mono ?_
    rw [HR.out]
    rintro e w' ⟨rfl, rfl⟩
    go_wp2_with fail
    refine (HA.out _).mono ?_
    rintro e w' ⟨rfl, hB⟩
    have hbn := bthen HB.out hB
    clear hB hconv
    go_wp2
    go_ret
    exact ⟨rfl, hbn⟩
def GivesS (l : List ByteArray) (w : World) (e : Ending) (w' : World) : Prop := (∃ b c, e = .returned (.slice b l.length c) ∧ Strs w' b l) ∧ Below w.heap.size w w'
theorem str_info : (Tryz.prog.info? 9).map (fun i => (i.zero, i.size, i.bytes)) = some (some (.string ByteArray.empty), 1, 16) := by kernel_rfl
theorem c_namePl (x : Pl) (w : World) : Calls Tryz.prog 174 #[x.v] w fun e w' => e = .returned (.string x.name) ∧ Below w.heap.size w w' := by
 go_enter Tryz.func174, Tryz.ntmps174
 go_wp2
 go_ret
 exact ⟨rfl, by go_grown⟩
theorem pl_take {l : List Pl} {k : Nat} {x : Pl} (h : l[k]? = some x) : plNames (l.take (k + 1)) = plNames (l.take k) ++ [x.name] := by
 rw [take_some h]
 simp [plNames]
theorem c_namedPl (l : List Pl) (a : Option Addr) (cap : Nat) (w : World) (hl : Pls w a l) :
  Calls Tryz.prog 173 #[.slice a l.length cap, .func (.func 174) #[] #[]] w (GivesS (plNames l) w) := by
 have hlen := hl.1
 have HL := Lib.hid hl
 clear hl
 have eg : Ent 174 := enters_of Tryz.func174 (by kernel_rfl) rfl
 obtain ⟨i0, hi0, hz0, hz1, hz2⟩ := info_parts str_info
 go_enter Tryz.func173, Tryz.ntmps173
 go_wp2
 go_loopw [5, 10] (fun v5 v10 wr => ∃ k : Nat, k ≤ l.length ∧ v10 = .int .i64 k ∧ wr.ownsRow w.heap.size 9 1 v5 (plNames (l.take k)).length (cellsL strC (plNames (l.take k))) ∧ Below w.heap.size w wr) (fun _ v10 _ => l.length - (intOf v10).toNat)
 case atStart => exact ⟨0, by omega, rfl, own_nil _ _ _ _, Below.refl _ _⟩
 case round =>
  obtain ⟨k, hk, rfl, hown, hb⟩ := hrel
  have HO := Lib.hid hown
  clear hown
  by_cases hlt : k < l.length
  ·obtain ⟨x, hx⟩ := some_at hlt
   obtain ⟨b, o, rfl, hat⟩ := (HL.out.later hb).at hx
   obtain ⟨y0, y1⟩ := pl_cells hat
   have hlk : (plNames (l.take k)).length ≤ k := by unfold plNames; rw [List.length_map]; exact List.length_take_le _ _
   have HX := Lib.hid (pl_take hx)
   have hidx : ¬ ((k : Int) < 0) := by omega
   have hidx2 : (k : Int) < (l.length : Int) := by omega
   clear hat hx
   go_wp2_with fail
   refine (via (w0 := wr) (by go_grown) (c_namePl x _)).mono ?_
   rintro e W1 ⟨rfl, hc, hf, hz, hB⟩
   have HH := own_below HO.out hB
   have hb2 := bthen hb hB
   have HHid := Lib.hid HH
   have hzb := hb2.size
   clear hB hc hf hz HO y0 y1
   go_wp2_with (at_builtin; refine stuckHere ?_)
   refine unHid ?_
   refine wpList_append_own_at _ rfl _ _ 93 rfl w.heap.size 9 i0 _ 1 16 Tryz.underlying93 hi0 hz0 hz1 hz2 rfl (by decide) _ _ _ rfl (HHid.out.alloc _) ⟨W1.heap.size, 0, none⟩ 1 1 [.string x.name] rfl rfl (cells_new _ #[_] _) (by simp [Value.oneCell']) (by unfold maxLen; omega) (by omega) (by simp; omega) ?_
   intro v' w1 hown' hgrow _ hat
   have hown2 : w1.ownsRow w.heap.size 9 1 v' (plNames (l.take (k + 1))).length (cellsL strC (plNames (l.take (k + 1)))) := by
    rw [HX.out, cellsL_snoc, List.length_append]
    exact hown'
   have hlt' := HH.lt
   have hbb : Below w.heap.size w w1 := by
    have h1 : Below w.heap.size w (W1.alloc (Obj.cells #[.string x.name] 9)) := hb2.alloc hb2.size _
    exact h1.trans ((kept_of_grown hgrow).below (by simp; omega) (fun j hj => (hlt' j hj).1))
   have HB := Lib.hid hbb
   have HW2 := Lib.hid hown2
   clear hown' hgrow hat hlt' hown2 hbb HH HHid hb2
   go_wp2
   go_roundw
   case rel => exact ⟨k + 1, by omega, by go_num, HW2.out, HB.out⟩
   case measure => simp [intOf]; omega
  ·obtain rfl : k = l.length := by omega
   have hown := HO.out
   rw [List.take_length] at hown
   obtain ⟨b, c, rfl, hcap, _, hr, hnew⟩ := Lst.own strC_len hown
   have hr' := hr (by unfold plNames; rw [List.length_map]; exact hlen)
   have HR := Lib.hid hr'
   clear hcap hnew hr hr' hown HO
   go_wp2
   go_ret
   exact ⟨⟨b, c, rfl, HR.out⟩, hb⟩
theorem c_places (m : Fm) (w : World) (hm : m.In w) : Calls Tryz.prog 102 #[m.v] w (GivesS (plNames m.f.places) w) := by
 have HM := Lib.hid hm
 unfold Fm.v
 clear hm
 go_enter Tryz.func102, Tryz.ntmps102
 go_wp2_with fail
 refine (c_namedPl m.f.places _ _ _ (HM.out.later (show Below w.heap.size w _ from by go_grown)).pl).mono ?_
 rintro e W1 ⟨⟨b, c, rfl, hs⟩, hB⟩
 have HS := Lib.hid hs
 have hbn := bthen (show Below w.heap.size w _ from by go_grown) hB
 clear hs hB
 go_wp2
 go_ret
 exact ⟨⟨b, c, rfl, HS.out⟩, hbn⟩
theorem c_nameGt (x : Gt) (w : World) : Calls Tryz.prog 176 #[x.v] w fun e w' => e = .returned (.string x.name) ∧ Below w.heap.size w w' := by
 go_enter Tryz.func176, Tryz.ntmps176
 go_wp2
 go_ret
 exact ⟨rfl, by go_grown⟩
theorem gt_take {l : List Gt} {k : Nat} {x : Gt} (h : l[k]? = some x) : gtNames (l.take (k + 1)) = gtNames (l.take k) ++ [x.name] := by
 rw [take_some h]
 simp [gtNames]
theorem c_namedGt (l : List Gt) (a : Option Addr) (cap : Nat) (w : World) (hl : Gts w a l) :
  Calls Tryz.prog 175 #[.slice a l.length cap, .func (.func 176) #[] #[]] w (GivesS (gtNames l) w) := by
 have hlen := hl.1
 have HL := Lib.hid hl
 clear hl
 have eg : Ent 176 := enters_of Tryz.func176 (by kernel_rfl) rfl
 obtain ⟨i0, hi0, hz0, hz1, hz2⟩ := info_parts str_info
 go_enter Tryz.func175, Tryz.ntmps175
 go_wp2
 go_loopw [5, 10] (fun v5 v10 wr => ∃ k : Nat, k ≤ l.length ∧ v10 = .int .i64 k ∧ wr.ownsRow w.heap.size 9 1 v5 (gtNames (l.take k)).length (cellsL strC (gtNames (l.take k))) ∧ Below w.heap.size w wr) (fun _ v10 _ => l.length - (intOf v10).toNat)
 case atStart => exact ⟨0, by omega, rfl, own_nil _ _ _ _, Below.refl _ _⟩
 case round =>
  obtain ⟨k, hk, rfl, hown, hb⟩ := hrel
  have HO := Lib.hid hown
  clear hown
  by_cases hlt : k < l.length
  ·obtain ⟨x, hx⟩ := some_at hlt
   obtain ⟨b, o, rfl, hat⟩ := (HL.out.later hb).at hx
   obtain ⟨y0, y1, y2, y3⟩ := gt_cells hat
   have hlk : (gtNames (l.take k)).length ≤ k := by unfold gtNames; rw [List.length_map]; exact List.length_take_le _ _
   have HX := Lib.hid (gt_take hx)
   have hidx : ¬ ((k : Int) < 0) := by omega
   have hidx2 : (k : Int) < (l.length : Int) := by omega
   clear hat hx
   go_wp2_with fail
   refine (via (w0 := wr) (by go_grown) (c_nameGt x _)).mono ?_
   rintro e W1 ⟨rfl, hc, hf, hz, hB⟩
   have HH := own_below HO.out hB
   have hb2 := bthen hb hB
   have HHid := Lib.hid HH
   have hzb := hb2.size
   clear hB hc hf hz HO y0 y1 y2 y3
   go_wp2_with (at_builtin; refine stuckHere ?_)
   refine unHid ?_
   refine wpList_append_own_at _ rfl _ _ 93 rfl w.heap.size 9 i0 _ 1 16 Tryz.underlying93 hi0 hz0 hz1 hz2 rfl (by decide) _ _ _ rfl (HHid.out.alloc _) ⟨W1.heap.size, 0, none⟩ 1 1 [.string x.name] rfl rfl (cells_new _ #[_] _) (by simp [Value.oneCell']) (by unfold maxLen; omega) (by omega) (by simp; omega) ?_
   intro v' w1 hown' hgrow _ hat
   have hown2 : w1.ownsRow w.heap.size 9 1 v' (gtNames (l.take (k + 1))).length (cellsL strC (gtNames (l.take (k + 1)))) := by
    rw [HX.out, cellsL_snoc, List.length_append]
    exact hown'
   have hlt' := HH.lt
   have hbb : Below w.heap.size w w1 := by
    have h1 : Below w.heap.size w (W1.alloc (Obj.cells #[.string x.name] 9)) := hb2.alloc hb2.size _
    exact h1.trans ((kept_of_grown hgrow).below (by simp; omega) (fun j hj => (hlt' j hj).1))
   have HB := Lib.hid hbb
   have HW2 := Lib.hid hown2
   clear hown' hgrow hat hlt' hown2 hbb HH HHid hb2
   go_wp2
   go_roundw
   case rel => exact ⟨k + 1, by omega, by go_num, HW2.out, HB.out⟩
   case measure => simp [intOf]; omega
  ·obtain rfl : k = l.length := by omega
   have hown := HO.out
   rw [List.take_length] at hown
   obtain ⟨b, c, rfl, hcap, _, hr, hnew⟩ := Lst.own strC_len hown
   have hr' := hr (by unfold gtNames; rw [List.length_map]; exact hlen)
   have HR := Lib.hid hr'
   clear hcap hnew hr hr' hown HO
   go_wp2
   go_ret
   exact ⟨⟨b, c, rfl, HR.out⟩, hb⟩
theorem c_gates (m : Fm) (w : World) (hm : m.In w) : Calls Tryz.prog 103 #[m.v] w (GivesS (gtNames m.f.gates) w) := by
 have HM := Lib.hid hm
 unfold Fm.v
 clear hm
 go_enter Tryz.func103, Tryz.ntmps103
 go_wp2_with fail
 refine (c_namedGt m.f.gates _ _ _ (HM.out.later (show Below w.heap.size w _ from by go_grown)).gt).mono ?_
 rintro e W1 ⟨⟨b, c, rfl, hs⟩, hB⟩
 have HS := Lib.hid hs
 have hbn := bthen (show Below w.heap.size w _ from by go_grown) hB
 clear hs hB
 go_wp2
 go_ret
 exact ⟨⟨b, c, rfl, HS.out⟩, hbn⟩
theorem Lst.off {α : Type} {enc : α → List Value} {n : Nat} {w : World} {a : Option Addr} {l : List α} (h : Lst enc n w a l) (hn : ∀ x, 0 < (enc x).length) (hl : l ≠ []) : ∀ b o, a = some ⟨b, o, none⟩ → b < w.heap.size := by
 obtain ⟨b, o, ha, hk⟩ := h.2 hl
 intro b' o' e
 rw [ha] at e
 cases e
 obtain ⟨x, hx⟩ := some_at (List.length_pos_iff.2 hl)
 exact cell_lt (hk 0 x hx 0 ((enc x)[0]'(hn x)) (by simp [hn x]))
theorem memB_take {l : List ByteArray} {k : Nat} {x : ByteArray} (h : l[k]? = some x) (s : ByteArray) : memB s (l.take (k + 1)) = if s = x then true else memB s (l.take k) := by
 rw [take_some h]
 unfold memB
 rw [List.any_append]
 by_cases e : s = x
 ·subst e
  simp
 ·have : decide (x = s) = false := decide_eq_false (fun h => e h.symm)
  simp [this, e]
theorem c_twice (l : List ByteArray) (a : Option Addr) (cap : Nat) (w : World) (hl : Strs w a l) (hs : ∀ s ∈ l, s.size ≤ 1000000) (hlen : l.length ≤ 10000) :
  Calls Tryz.prog 104 #[.slice a l.length cap] w fun e w' => e = .returned (.bool (twiceB l)) ∧ Below w.heap.size w w' := by
 have HL := Lib.hid hl
 have HS := Lib.hid hs
 clear hl hs
 have hmm := @run_makeMap Tryz.prog
 go_enter Tryz.func104, Tryz.ntmps104
 go_wp2
 go_loopw [9] (fun v9 wr => ∃ k : Nat, k ≤ l.length ∧ v9 = .int .i64 k ∧ SetS wr w.heap.size k (fun s => memB s (l.take k)) ∧ twiceB (l.take k) = false ∧ Below w.heap.size w wr) (fun v9 _ => l.length - (intOf v9).toNat)
 case atStart => exact ⟨0, by omega, rfl, SetS.made w, rfl, (Below.refl _ _).alloc (Nat.le_refl _) _⟩
 case round =>
  obtain ⟨k, hk, rfl, hm, ht, hb⟩ := hrel
  have HM := Lib.hid hm
  have HT := Lib.hid ht
  clear hm ht hmm
  by_cases hlt : k < l.length
  ·obtain ⟨x, hx⟩ := some_at hlt
   obtain ⟨b, o, rfl, hat⟩ := (HL.out.later hb).at hx
   rw [Nat.mul_one] at hat
   have y0 := str_cell hat
   have hsz := HS.out x (some_mem hx)
   have hlook := HM.out.look x hsz
   have HX := Lib.hid hx
   have htk : twiceB (l.take (k + 1)) = memB x (l.take k) := by
    rw [take_some hx, twiceB_append, HT.out, Bool.false_or]
   have HTK := Lib.hid htk
   have hidx : ¬ ((k : Int) < 0) := by omega
   have hidx2 : (k : Int) < (l.length : Int) := by omega
   clear hat hx htk
   cases hq : memB x (l.take k) with
   | true =>
    rw [hq] at hlook
    have hfin : twiceB l = true := by
     have h1 : twiceB (l.take (k + 1)) = true := HTK.out.trans hq
     have h2 := twice_more (l.take (k + 1)) (l.drop (k + 1)) h1
     rwa [List.take_append_drop] at h2
    have HF := Lib.hid hfin
    clear hq hfin
    go_wp2
    go_ret
    exact ⟨by rw [HF.out]; rfl, hb⟩
   | false =>
    rw [hq] at hlook
    have HQ := Lib.hid hq
    clear hq
    go_wp2_with (at_mapUpdate; refine stuckHere ?_)
    refine unHid ?_
    refine HM.out.put (by omega) rfl _ _ _ rfl rfl x hsz rfl true rfl ?_
    intro w1 hm1 hgrow
    have hm2 : SetS w1 w.heap.size (k + 1) (fun s => memB s (l.take (k + 1))) := by
     have e : (fun s => memB s (l.take (k + 1))) = (fun s => if s = x then true else memB s (l.take k)) := funext fun s => memB_take HX.out s
     rw [e]
     exact hm1
    have hbb : Below w.heap.size w w1 := hb.trans ((kept_of_grown hgrow).below hb.size (fun j hj => by cases hj; exact Nat.le_refl _))
    have HM2 := Lib.hid hm2
    have HB := Lib.hid hbb
    clear hm1 hgrow hm2 hbb hlook
    go_wp2
    go_roundw
    case rel => exact ⟨k + 1, by omega, by go_num, HM2.out, HTK.out.trans HQ.out, HB.out⟩
    case measure => simp [intOf]; omega
  ·obtain rfl : k = l.length := by omega
   have ht := HT.out
   rw [List.take_length] at ht
   have HF := Lib.hid ht
   clear ht
   go_wp2
   go_ret
   exact ⟨by rw [HF.out]; rfl, hb⟩
end Go.Proofs.YtlppdgaogdpajaaGreatDoor
