/- This text proves which re-counts the iterator 'counting' of package tally yields. -/
import Derived.Test.YthdenmbfeanioaaGreatDoorLoop
import Derived.Test.YthdenmbfeanioaaGreatDoorRecs
namespace Go.Proofs.YthdenmbfeanioaaGreatDoor
open Go.RowKit Go.Shelf
attribute [local go_sem] Oper.semAt_some

/-- The re-counts of a list that count on a day. -/
def cnt (known : Int) (l : List Rc) : List Rc := l.filter fun x => decide (x.k ≤ known)
theorem take_rc {l : List Rc} {k : Nat} (hk : k < l.length) : l.take (k + 1) = l.take k ++ [rc l k] := by
  rw [List.take_succ_eq_append_getElem hk]; simp [rc, hk]
theorem cnt_yes {l : List Rc} {k : Nat} {known : Int} (hk : k < l.length) (h : (rc l k).k ≤ known) : cnt known (l.take (k + 1)) = cnt known (l.take k) ++ [rc l k] := by
  rw [take_rc hk]; simp [cnt, h]
theorem cnt_no {l : List Rc} {k : Nat} {known : Int} (hk : k < l.length) (h : ¬ (rc l k).k ≤ known) : cnt known (l.take (k + 1)) = cnt known (l.take k) := by
  rw [take_rc hk]; simp [cnt, h]
theorem cnt_prefix (known : Int) (l : List Rc) (k : Nat) : cnt known (l.take k) <+: cnt known l := (List.take_prefix k l).filter _

theorem c_counting (a : Option Addr) (n cap : Nat) (known : Int) (w : World) :
    Calls Tryz.prog 64 #[.slice a n cap, .int .i64 known] w fun e w' =>
      e = .returned (.func (.func 76) #[] #[.pointer (some ⟨w.heap.size, 0, none⟩), .pointer (some ⟨w.heap.size + 1, 0, none⟩)]) ∧ w' = (w.alloc (.cells #[.slice a n cap] 49)).alloc (.cells #[.int .i64 known] 3) := by
  have hmf : ∀ (fn : Fn) (first cap : Array Value) (w : World), (Instr.makeFunc fn first cap).run Tryz.prog w = .ok (.func fn first cap) w := fun _ _ _ _ => rfl
  go_enter Tryz.func64, Tryz.ntmps64
  go_wp2
  go_ret
  exact ⟨rfl, rfl⟩

theorem Recs.block {w : World} {a : Option Addr} {l : List Rc} (h : Recs w a l) (hl : l ≠ []) : ∀ b o, a = some ⟨b, o, none⟩ → b < w.heap.size := by
  intro b o hab
  obtain ⟨b', o', ha, hk⟩ := h.2 hl
  rw [hab] at ha
  cases ha
  exact cell_lt (hk 0 (List.length_pos_iff.2 hl)).i
theorem RcAt.kept {O : Nat → Prop} {w w1 : World} {b o : Nat} {x : Rc} (h : RcAt w b o x) (hb : Kept O w w1) (hn : ¬ O b) : RcAt w1 b o x :=
  ⟨hb.cell hn h.i, hb.cell hn h.d, hb.cell hn h.k, hb.cell hn h.s, hb.cell hn h.t, hb.cell hn h.n⟩

set_option maxRecDepth 100000 in
set_option maxHeartbeats 4000000 in
theorem iter_counting (Bl Bk : Nat) (l : List Rc) (a : Option Addr) (cap : Nat) (known : Int) (mine : Nat → Prop) (w : World) (hmlt : ∀ k, mine k → k < w.heap.size) (hmk : mine Bk) (hms : l ≠ [] → ∀ b o, a = some ⟨b, o, none⟩ → mine b)
    (hl : w.cell? ⟨Bl, 0, none⟩ = some (.slice a l.length cap)) (hk : w.cell? ⟨Bk, 0, none⟩ = some (.int .i64 known)) (hr : Recs w a l) :
    Iter 76 #[.pointer (some ⟨Bl, 0, none⟩), .pointer (some ⟨Bk, 0, none⟩)] (fun x : Rc => #[x.v]) (cnt known l) mine w := by
  intro lp J Jx W O0 hW hJ hJx hJlt hO0 hY h0
  have hlen := hr.1
  have hl' := ((bcell hW).1 _ _ (cell_lt hl)).trans hl
  have hk' := ((bcell hW).1 _ _ (cell_lt hk)).trans hk
  have HR := Lib.hid (hr.later hW)
  clear hl hk hr
  refine callsIn_wide.1 (callsIn_of_wp (n := 9) Tryz.func76 rfl trivial ?_ rfl)
  simp only [Tryz.ntmps76, List.size_toArray, List.length_cons, List.length_nil, Nat.reduceAdd, Nat.reduceSub, Array.replicate_succ, Array.replicate_zero, List.push_toArray, List.append_toArray, List.nil_append, List.cons_append]
  gi_wp2
  gi_loopw [8] (fun v8 wr => ∃ (k : Nat) (O : Nat → Prop), k ≤ l.length ∧ v8 = .int .i64 k ∧ J (cnt known (l.take k)) O wr ∧ (∀ j, mine j → ¬ O j) ∧ Kept (fun j => ¬ mine j) W wr) (fun v8 _ => l.length - (intOf v8).toNat)
  case atStart => exact ⟨0, O0, by omega, rfl, h0, hO0, Kept.refl _ _⟩
  case round =>
    obtain ⟨k, O, hk, rfl, hj, hO, hK⟩ := hrel
    by_cases hlt : k < l.length
    · obtain ⟨b, o, rfl, hat⟩ := HR.out.2 (by intro e; rw [e] at hlt; simp at hlt)
      obtain ⟨x1, x2, x3, x4, x5, x6⟩ := (hat k hlt).kept hK (fun h => h (hms (by intro e; rw [e] at hlt; simp at hlt) b o rfl))
      have c2 := hK.cell (fun h => h hmk) hk'
      clear hat
      have hjb := (hJ _).alloc hj (Obj.cells #[.int .i64 (rc l k).i, .int .i64 (rc l k).d, .int .i64 (rc l k).k, .int .i64 (rc l k).s, .int .i64 (rc l k).t, .int .i64 (rc l k).n] 25)
      have hKb := hK.alloc (Obj.cells #[.int .i64 (rc l k).i, .int .i64 (rc l k).d, .int .i64 (rc l k).k, .int .i64 (rc l k).s, .int .i64 (rc l k).t, .int .i64 (rc l k).n] 25)
      have c2b := hKb.cell (fun h => h hmk) hk'
      by_cases hkn : (rc l k).k ≤ known
      · obtain ⟨fn, tmps, assign, body, hy, hR⟩ := hY _ (rc l k) O _ hjb (by rw [← cnt_yes hlt hkn]; exact cnt_prefix known l (k + 1))
        have HJ := Lib.hid hjb
        have HK := Lib.hid hKb
        have HKK := Lib.hid hK
        have HP := Lib.hid (cnt_yes hlt hkn)
        clear hjb hKb hj hK
        gi_wp2
        refine (RoundIn.deep hR).mono ?_
        rintro e W3 ⟨O', hO', hK3, ⟨rfl, hJ3⟩ | ⟨rfl, hJx3⟩⟩
        · gi_wp2
          go_roundw
          case rel =>
            refine ⟨k + 1, O', by omega, by simp, by rw [HP.out]; exact hJ3, fun j hm hx => ?_, HK.out.trans hK3 fun j _ hx hm => hO j hm hx⟩
            rcases hO' j hx with h | h
            · exact hO j hm h
            · have h1 := hmlt j hm
              have h2 := hW.size
              have h3 := HK.out.size
              omega
          case measure => simp [intOf]; omega
        · gi_wp2
          refine bodyPost_ret (results_none rfl _ _ _) rfl ?_
          exact ⟨⟨_, rfl⟩, O', .inr hJx3⟩
      · have HJ := Lib.hid hjb
        have HK := Lib.hid hKb
        have HKK := Lib.hid hK
        have HP := Lib.hid (cnt_no hlt hkn)
        have hd : decide ((rc l k).k ≤ known) = false := by simpa using hkn
        clear hjb hKb hj hK
        gi_wp2
        refine ⟨fun _ h => (by cases h), ?_⟩
        gi_wp2
        go_roundw
        case rel => exact ⟨k + 1, O, by omega, by simp, by rw [HP.out]; exact HJ.out, hO, HK.out⟩
        case measure => simp [intOf]; omega
    · obtain rfl : k = l.length := by omega
      rw [List.take_length] at hj
      gi_wp2
      go_end0
      exact ⟨⟨_, rfl⟩, O, .inl hj⟩
end Go.Proofs.YthdenmbfeanioaaGreatDoor
