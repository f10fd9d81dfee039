/- This text proves what read of package tally returns, for every line and number. -/
import Derived.Test.YthdenmbfeanioaaGreatDoorTold
import Derived.Test.YthdenmbfeanioaaGreatDoorTextLaws
namespace Go.Proofs.YthdenmbfeanioaaGreatDoor
open Go.RowKit Go.Shelf
attribute [local go_sem] Oper.semAt_some

theorem int_info2 : (Tryz.prog.info? 3).map (fun i => (i.zero, i.size, i.bytes)) = some (some (.int .i64 0), 1, 8) := by kernel_rfl
/-- What a call returns that may read numbers. -/
def GivesNums (r : Option (List Int)) (w : World) (e : Ending) (w' : World) : Prop := (match r with
  | some n => ∃ b c, e = .returned (.tuple #[.slice b n.length c, .bool true]) ∧ Ints w' b n
  | none => ∃ v, e = .returned (.tuple #[v, .bool false])) ∧ Below w.heap.size w w'
theorem GivesNums.no {w : World} {e : Ending} {w' : World} {v : Value} (he : e = .returned (.tuple #[v, .bool false])) (hb : Below w.heap.size w w') : GivesNums none w e w' := ⟨⟨v, he⟩, hb⟩
theorem GivesNums.yes {n : List Int} {w : World} {e : Ending} {w' : World} {b : Option Addr} {c : Nat} (he : e = .returned (.tuple #[.slice b n.length c, .bool true])) (hi : Ints w' b n) (hb : Below w.heap.size w w') : GivesNums (some n) w e w' := ⟨⟨b, c, he, hi⟩, hb⟩

theorem pieces_take {s : ByteArray} {k : Nat} (h : k < (piecesB s).length) : ((piecesB s).take (k + 1)).map (·.data.toList) = ((piecesB s).take k).map (·.data.toList) ++ [(st (piecesB s) k).data.toList] := by
  rw [List.take_succ_eq_append_getElem h, List.map_append]
  simp [st, h]
theorem st_mem {l : List ByteArray} {k : Nat} (h : k < l.length) : st l k ∈ l := by simp [st, h]
theorem reads_fail {s : ByteArray} {k many : Nat} {l : List Int} (h : k < (piecesB s).length) (hl : readsV (((piecesB s).take k).map (·.data.toList)) = some l) (hx : ∀ v, Lib.atoiAll (st (piecesB s) k).data.toList ≠ .ok v) : readsN s.data.toList many = none := by
  have h1 : readsV (((piecesB s).take (k + 1)).map (·.data.toList)) = none := by
    rw [pieces_take h, readsV_snoc, hl]
    dsimp only
    cases hc : Lib.atoiAll (st (piecesB s) k).data.toList
    all_goals first
      | rfl
      | exact (hx _ hc).elim
  have h2 : readsV (Lib.split s.data.toList [32]) = none := by
    rw [← piecesB_data, ← List.take_append_drop (k + 1) (piecesB s), List.map_append]
    exact readsV_none h1
  unfold readsN
  rw [h2]
theorem reads_next {s : ByteArray} {k : Nat} {l : List Int} {v : Int} (h : k < (piecesB s).length) (hl : readsV (((piecesB s).take k).map (·.data.toList)) = some l) (hx : Lib.atoiAll (st (piecesB s) k).data.toList = .ok v) : readsV (((piecesB s).take (k + 1)).map (·.data.toList)) = some (l ++ [v]) := by
  rw [pieces_take h, readsV_snoc, hl]
  dsimp only
  rw [hx]
theorem reads_all {s : ByteArray} {l : List Int} (many : Nat) (hl : readsV (((piecesB s).take (piecesB s).length).map (·.data.toList)) = some l) : readsN s.data.toList many = if l.length = many ∧ toldV l = s.data.toList then some l else none := by
  rw [List.take_length, piecesB_data] at hl
  unfold readsN
  rw [hl]
theorem Strs.kept {O : Nat → Prop} {A C : World} {g : Nat} {l : List ByteArray} (h : Strs A (some ⟨g, 0, none⟩) l) (hk : Kept O A C) (hn : ¬ O g) : Strs C (some ⟨g, 0, none⟩) l :=
  ⟨h.1, fun hl => by obtain ⟨b, o, ha, hx⟩ := h.2 hl; cases ha; exact ⟨g, 0, rfl, fun k hk' => hk.cell hn (hx k hk')⟩⟩
theorem toList_inj {a b : ByteArray} (h : a.toList = b.toList) : a = b := by
  rw [ByteArray.toList_eq, ByteArray.toList_eq] at h
  exact ByteArray.ext (Array.toList_inj.1 h)
theorem toldB_is (l : List Int) (s : ByteArray) : toldV l = s.data.toList ↔ toldB l = s := by
  constructor
  · intro h
    apply ByteArray.ext
    simp [toldB, h]
  · rintro rfl
    rfl

set_option maxRecDepth 100000 in
set_option maxHeartbeats 4000000 in
theorem c_read (s : ByteArray) (many : Nat) (w : World) (hL : LibW w) (hs : s.size ≤ 1000) :
    Calls Tryz.prog 28 #[.string s, .int .i64 many] w (GivesNums (readsN s.data.toList many) w) := by
  obtain ⟨i0, hi0, hz0, hz1, hz2⟩ := info_parts int_info2
  have HW := Lib.hid hL
  clear hL
  have hpl := piecesB_len s
  go_enter Tryz.func28, Tryz.ntmps28
  go_wp2_with fail
  refine (c_Split s _ HW.out (by omega)).mono ?_
  rintro e W0 ⟨rfl, hst, hb0⟩
  have HST := Lib.hid hst
  have HB0 := Lib.hid hb0
  have hfail := fun k l => reads_fail (s := s) (k := k) (many := many) (l := l)
  have hnext := fun k l v => reads_next (s := s) (k := k) (l := l) (v := v)
  have hall := fun l => reads_all (s := s) (l := l) many
  have heach := fun k (h : k < (piecesB s).length) => piecesB_each s _ (st_mem h)
  have HF := Lib.hid hfail
  have HX := Lib.hid hnext
  have HA := Lib.hid hall
  have HE := Lib.hid heach
  clear hst hb0 hfail hnext hall heach
  generalize piecesB s = P at *
  generalize readsN s.data.toList many = R at *
  go_wp2_with fail
  go_loopw [6, 14] (fun v6 v14 wr => ∃ (k : Nat) (l : List Int), k ≤ P.length ∧ v14 = .int .i64 k ∧ readsV ((P.take k).map (·.data.toList)) = some l ∧ wr.ownsRow (w.heap.size + 1) 3 1 v6 l.length (cellsL intC l) ∧ Strs wr (some ⟨w.heap.size, 0, none⟩) P ∧ Below w.heap.size w wr) (fun _ v14 _ => P.length - (intOf v14).toNat)
  case atStart => exact ⟨0, [], by omega, rfl, rfl, own_nil _ _ _ _, HST.out, HB0.out⟩
  case round =>
    obtain ⟨k, l, hk, rfl, hl, hown, hst, hb⟩ := hrel
    have hlen : l.length = k := by
      have := readsV_len hl
      rw [List.length_map, List.length_take] at this
      omega
    have HS := Lib.hid hst
    have HL := Lib.hid hl
    have HO := Lib.hid hown
    have hll : l.length ≤ 1001 := by omega
    clear hst hl hown HST HB0 hlen
    by_cases hlt : k < P.length
    · obtain ⟨b, o, he, hat⟩ := HS.out.2 (by intro e; rw [e] at hlt; simp at hlt)
      cases he
      have hx := hat k hlt
      rw [Nat.zero_add] at hx
      have hPs := cell_lt hx
      clear hat
      have hp := HE.out k hlt
      have HF' := Lib.hid (HF.out k l hlt HL.out)
      have HX' := Lib.hid (HX.out k l)
      generalize st P k = p at *
      have hidx : ¬ ((k : Int) < 0) := by omega
      have hidx2 : (k : Int) < (P.length : Int) := by omega
      by_cases hv : ∃ v, Lib.atoiAll p.data.toList = .ok v
      · obtain ⟨v, hv⟩ := hv
        have HN := Lib.hid (HX'.out v hlt HL.out hv)
        have HV := Lib.hid hv
        clear hv HF' HX'
        go_wp2_with fail
        refine (via (w0 := wr) (by go_grown) (c_Atoi_ok p v _ (by omega) HV.out)).mono ?_
        rintro e W1 ⟨rfl, hc, hf, hz, hB⟩
        have HH := own_below HO.out hB
        have HHid := Lib.hid HH
        have HS1 := Lib.hid (HS.out.later hB)
        have hbn := bthen hb hB
        have hzb := hb.size
        have hlt' := HH.lt
        have HLT := Lib.hid hlt'
        clear hc hf hx HH HO HS hlt'
        go_wp2_with (at_builtin; refine stuckHere ?_)
        refine unHid ?_
        refine wpList_append_own_at _ rfl _ _ 52 rfl (w.heap.size + 1) 3 i0 _ 1 8 Tryz.underlying52 hi0 hz0 hz1 hz2 rfl (by decide) _ _ _ rfl (HHid.out.alloc _) ⟨W1.heap.size, 0, none⟩ 1 1 [.int .i64 v] rfl rfl (cells_new _ #[_] _) (by simp [Value.oneCell']) (by unfold maxLen; omega) (by omega) (by simp; omega) ?_
        intro v' w1 hown' hgrow _ hat
        have hown2 : w1.ownsRow (w.heap.size + 1) 3 1 v' (l ++ [v]).length (cellsL intC (l ++ [v])) := by
          rw [cellsL_snoc, List.length_append]
          exact hown'
        have hk0 := (Kept.of_below (O := fun _ => False) ((Below.refl _ W1).alloc (Nat.le_refl _) (Obj.cells #[.int .i64 v] 3)))
        have hk1 := Kept.trans (hk0.wider (fun _ _ h => h.elim)) (kept_of_grown hgrow) (fun _ _ h => h)
        have hst2 := HS1.out.kept hk1 (fun h => by have := (HLT.out _ h).1; omega)
        have hbb : Below w.heap.size w w1 := hbn.trans (hk1.below (by omega) (fun j hj => by have := (HLT.out _ hj).1; omega))
        have G1 := Lib.hid hown2
        have G2 := Lib.hid hst2
        have G3 := Lib.hid hbb
        clear hown' hgrow hat hown2 hk0 hk1 hst2 hbb hbn hB
        go_wp2
        go_roundw
        case rel => exact ⟨k + 1, l ++ [v], by omega, by go_num, HN.out, G1.out, G2.out, G3.out⟩
        case measure => simp [intOf]; omega
      · have hv' : ∀ v, Lib.atoiAll p.data.toList ≠ .ok v := fun v h => hv ⟨v, h⟩
        have HR := Lib.hid (HF'.out hv')
        have HV := Lib.hid hv'
        clear hv hv' HF' HX'
        have LW := Lib.hid (HW.out.later hb)
        go_wp2_with fail
        refine (c_Atoi_no p _ LW.out (by omega) HV.out).mono ?_
        rintro e W1 ⟨⟨x, t, q, rfl⟩, hB⟩
        have hbn := bthen hb hB
        clear hB
        go_wp2_with fail
        go_ret2
        exact HR.out ▸ GivesNums.no rfl hbn
    · obtain rfl : k = P.length := by omega
      have hA := HA.out l HL.out
      obtain ⟨b, c, rfl, hr, hnew⟩ := int_own HO.out
      have hr' := hr (by omega)
      have HR := Lib.hid hr'
      have h64 : All64 l := readsV_64 HL.out
      have H64 := Lib.hid h64
      clear hr hnew hr' HO h64 HF HX HE
      by_cases hm : l.length = many
      · have hm1 : ((l.length : Int) == (many : Int)) = true := by rw [hm]; simp
        have LW := Lib.hid (HW.out.later hb)
        have HM := Lib.hid hm
        clear hm
        by_cases ht : toldB l = s
        · have hyes : R = some l := by rw [hA, if_pos ⟨HM.out, (toldB_is l s).2 ht⟩]
          have ht1 : ((toldB l).toList == s.toList) = true := by rw [ht]; simp
          have HY := Lib.hid hyes
          have HAA := Lib.hid hA
          clear hyes hA ht
          go_wp2_with fail
          refine (c_told l b c _ LW.out HR.out H64.out (by omega)).mono ?_
          rintro e W1 ⟨rfl, hB⟩
          have hbn := bthen hb hB
          have HR1 := Lib.hid (HR.out.later hB)
          clear hB
          go_wp2_with fail
          go_ret2
          exact HY.out ▸ GivesNums.yes rfl HR1.out hbn
        · have hno : R = none := by rw [hA, if_neg (fun h => ht ((toldB_is l s).1 h.2))]
          have ht1 : ((toldB l).toList == s.toList) = false := by
            rw [beq_eq_false_iff_ne]
            intro h
            exact ht (toList_inj h)
          have HY := Lib.hid hno
          have HAA := Lib.hid hA
          clear hno hA ht
          go_wp2_with fail
          refine (c_told l b c _ LW.out HR.out H64.out (by omega)).mono ?_
          rintro e W1 ⟨rfl, hB⟩
          have hbn := bthen hb hB
          clear hB
          go_wp2_with fail
          go_ret2
          exact HY.out ▸ GivesNums.no rfl hbn
      · have hno : R = none := by rw [hA, if_neg (fun h => hm h.1)]
        have hm1 : ((l.length : Int) == (many : Int)) = false := by simp; omega
        have HY := Lib.hid hno
        have HAA := Lib.hid hA
        clear hno hA hm
        go_wp2_with fail
        go_ret2
        exact HY.out ▸ GivesNums.no rfl hb
end Go.Proofs.YthdenmbfeanioaaGreatDoor
