/- This text proves contracts of the library's functions on numerals and lists of strings, in every world in which the library's own variables hold what its text lays. -/
import Derived.Test.YthdenmbfeanioaaGreatDoorShelf
import Derived.Test.YthdenmbfeanioaaGreatDoorLists
import Derived.Test.YthdenmbfeanioaaGreatDoorTextPlain
import Derived.Lib.SplitLaws
import Derived.Lib.SmallJoins
namespace Go.Proofs.YthdenmbfeanioaaGreatDoor
open Go.RowKit

/-- The library's variables hold what its text lays. -/
structure LibW (w : World) : Prop where
  tab : Lib.TabIs Tryz.prog w "internal/strconv.uint64pow10" .u64 Lib.pow10Tab
  len : ∃ m, w.cell? ⟨3, 0, none⟩ = some (.int .i64 m)
  syn : ∃ tp p, w.var? Tryz.prog "strconv.ErrSyntax" = some #[.iface tp p]
  rng : ∃ tp p, w.var? Tryz.prog "strconv.ErrRange" = some #[.iface tp p]
theorem g_tab : Tryz.prog.globalNamed "internal/strconv.uint64pow10" = some 2 := by kernel_rfl
theorem g_syn : Tryz.prog.globalNamed "strconv.ErrSyntax" = some 0 := by kernel_rfl
theorem g_rng : Tryz.prog.globalNamed "strconv.ErrRange" = some 1 := by kernel_rfl
theorem LibW.later {w w1 : World} (h : LibW w) (hb : Below w.heap.size w w1) : LibW w1 where
  tab := Joins.var_stays g_tab h.tab hb (Nat.le_refl _)
  len := by obtain ⟨m, hm⟩ := h.len; exact ⟨m, ((bcell hb).1 _ _ (cell_lt hm)).trans hm⟩
  syn := by obtain ⟨t, p, hm⟩ := h.syn; exact ⟨t, p, Joins.var_stays g_syn hm hb (Nat.le_refl _)⟩
  rng := by obtain ⟨t, p, hm⟩ := h.rng; exact ⟨t, p, Joins.var_stays g_rng hm hb (Nat.le_refl _)⟩

def itoaB (n : Int) : ByteArray := ⟨(Lib.itoa n).toArray⟩
def Int64 (n : Int) : Prop := -9223372036854775808 ≤ n ∧ n ≤ 9223372036854775807
theorem below_grow1 (w : World) (k : Nat) (os : Array Obj) : Below w.heap.size w (Go.Sort.grow (w.drewN k) os) := by
  have h := Joins.below_draws w.heap.size w k
  have e : (Go.Sort.grow (w.drewN k) os).heap = w.heap ++ os := rfl
  exact ⟨h.os, h.tape, h.output, by rw [e]; simp, fun j hj => by rw [e, Array.getElem?_append_left hj]⟩
theorem c_Itoa (n : Int) (w : World) (hl : LibW w) (hn : Int64 n) :
    Calls Tryz.prog 49 #[.int .i64 n] w fun e w' => e = .returned (.string (itoaB n)) ∧ Below w.heap.size w w' := by
  refine (Tryz.strconv_Itoa n hn.1 hn.2 w hl.tab).mono ?_
  rintro e w' ⟨rfl, k, os, rfl⟩
  exact ⟨rfl, below_grow1 w k os⟩
theorem c_Atoi_ok (s : ByteArray) (v : Int) (w : World) (hs : s.size ≤ 1000000) (h : Lib.atoiAll s.data.toList = .ok v) :
    Calls Tryz.prog 53 #[.string s] w fun e w' => e = .returned (.tuple #[.int .i64 v, .nilIface]) ∧ Below w.heap.size w w' := by
  refine (Tryz.strconv_Atoi_ok s (by omega) v h w).mono ?_
  rintro e w' ⟨rfl, rfl | ⟨t, rfl⟩⟩
  · exact ⟨rfl, Below.refl _ _⟩
  · exact ⟨rfl, Joins.below_bytesWorld _ _ _ _ (Nat.le_refl _)⟩
/-- What a call returns that tells an error. -/
def FailsInt (w : World) (e : Ending) (w' : World) : Prop := (∃ x t p, e = .returned (.tuple #[.int .i64 x, .iface t p])) ∧ Below w.heap.size w w'
theorem c_Atoi_no (s : ByteArray) (w : World) (hl : LibW w) (hs : s.size ≤ 1000000) (h : ∀ v, Lib.atoiAll s.data.toList ≠ .ok v) :
    Calls Tryz.prog 53 #[.string s] w (FailsInt w) := by
  obtain ⟨t1, p1, h1⟩ := hl.syn
  obtain ⟨t2, p2, h2⟩ := hl.rng
  cases hc : Lib.atoiAll s.data.toList
  all_goals first
    | exact (h _ hc).elim
    | (refine Calls.mono (show Calls Tryz.prog 53 #[.string s] w _ from Any.strconv_Atoi_syntax_var Tryz.laysC172 s (by omega) hc t1 p1 w h1) ?_
       rintro e w' ⟨N, he, _, _, hb⟩
       exact ⟨⟨_, _, _, he⟩, hb⟩)
    | (refine Calls.mono (show Calls Tryz.prog 53 #[.string s] w _ from Any.strconv_Atoi_range_var Tryz.laysC172 s (by omega) hc t2 p2 w h2) ?_
       rintro e w' ⟨N, he, _, _, hb⟩
       exact ⟨⟨_, _, _, he⟩, hb⟩)

def st (l : List ByteArray) (k : Nat) : ByteArray := l[k]?.getD ByteArray.empty
/-- A slice's cells: a list of strings. -/
def Strs (w : World) (a : Option Addr) (l : List ByteArray) : Prop := l.length ≤ 1000000000000 ∧ (l ≠ [] → ∃ b o, a = some ⟨b, o, none⟩ ∧ ∀ k, k < l.length → w.cell? ⟨b, o + k, none⟩ = some (.string (st l k)))
theorem Strs.later {w w1 : World} {a : Option Addr} {l : List ByteArray} (h : Strs w a l) (hb : Below w.heap.size w w1) : Strs w1 a l :=
  ⟨h.1, fun hl => by obtain ⟨b, o, ha, hk⟩ := h.2 hl; exact ⟨b, o, ha, fun k hk' => ((bcell hb).1 _ _ (cell_lt (hk k hk'))).trans (hk k hk')⟩⟩
def strC (x : ByteArray) : List Value := [.string x]
theorem strC_len (x : ByteArray) : (strC x).length = 1 := rfl
theorem str_info : (Tryz.prog.info? 9).map (fun i => (i.zero, i.size, i.bytes)) = some (some (.string ByteArray.empty), 1, 16) := by kernel_rfl
theorem str_own {w : World} {base : Nat} {v : Value} {l : List ByteArray} (h : w.ownsRow base 9 1 v l.length (cellsL strC l)) : ∃ b c, v = .slice b l.length c ∧ l.length ≤ c ∧ (l.length ≤ 1000000000000 → Strs w b l) ∧ ∀ g o, b = some ⟨g, o, none⟩ → base ≤ g := by
  rcases h.2 with ⟨rfl, h0⟩ | ⟨g, cap, cur, rfl, hbg, hg, hcap, _⟩
  · obtain rfl : l = [] := List.length_eq_zero_iff.1 h0
    exact ⟨none, 0, rfl, by simp, fun h => ⟨h, fun e => (e rfl).elim⟩, fun g o h => by cases h⟩
  · refine ⟨_, cap, rfl, hcap, fun hb => ⟨hb, fun _ => ⟨g, 0, rfl, fun k hk => ?_⟩⟩, fun g' o h => by cases h; exact hbg⟩
    have hx : l[k]? = some (st l k) := by simp [st, hk]
    have := add_cell ⟨g, 0, none⟩ _ _ _ w _ rfl (h.cells (g := g) rfl _ _ ((cellsL_get strC_len l k 0 (by omega) _ hx).trans rfl))
    simpa using this

/-- Joined by single blanks. -/
theorem c_Join (l : List ByteArray) (a : Option Addr) (cap : Nat) (w : World) (h : Strs w a l) (hc : l.length ≤ cap) (hlen : (Lib.join (l.map (·.data.toList)) [32]).length ≤ 140737488355328) :
    Calls Tryz.prog 50 #[.slice a l.length cap, .string ⟨#[32]⟩] w fun e w' => e = .returned (.string ⟨(Lib.join (l.map (·.data.toList)) [32]).toArray⟩) ∧ Below w.heap.size w w' := by
  by_cases hn : l = []
  · subst hn
    refine (Tryz.strings_Join_none a cap ⟨#[32]⟩ w).mono ?_
    rintro e w' ⟨rfl, rfl⟩
    exact ⟨rfl, Below.refl _ _⟩
  · obtain ⟨b, o, rfl, hk⟩ := h.2 hn
    have h0 : 0 < l.length := List.length_pos_iff.2 hn
    refine Tryz.strings_Join b o cap l ⟨#[32]⟩ w (fun j x hx => ?_) (cell_lt (hk 0 h0)) (by have := h.1; omega) hc hlen
    have hj : j < l.length := by
      rcases Nat.lt_or_ge j l.length with h | h
      · exact h
      · rw [List.getElem?_eq_none h] at hx; cases hx
    have := hk j hj
    rw [this]
    simp [st, hx]

theorem splitK_len (sep : List UInt8) (k : Nat) : ∀ (s : List UInt8), ∀ p ∈ Lib.splitK sep 0 k s, p.length ≤ s.length := by
  induction k with
  | zero => intro s p hp; simp [Lib.splitK] at hp; subst hp; exact Nat.le_refl _
  | succ k ih =>
    intro s p hp
    rw [Lib.splitK] at hp
    split at hp
    · simp at hp; subst hp; exact Nat.le_refl _
    · rcases List.mem_cons.1 hp with rfl | hp
      · exact List.length_take_le' _ _
      · have := ih _ p hp
        simp at this
        omega
/-- The pieces of a string between blanks. -/
def piecesB (s : ByteArray) : List ByteArray := Lib.splitB ⟨#[32]⟩ 0 (Lib.countB s ⟨#[32]⟩) s
theorem piecesB_data (s : ByteArray) : (piecesB s).map (·.data.toList) = Lib.split s.data.toList [32] := Lib.splitB_data _ _ _ _
theorem piecesB_count (s : ByteArray) : (piecesB s).length = Lib.countB s ⟨#[32]⟩ + 1 := Lib.splitB_all _ (by decide) 0 _ s rfl
theorem piecesB_len (s : ByteArray) : (piecesB s).length ≤ s.size + 1 := by
  rw [piecesB_count]
  exact Nat.succ_le_succ (Lib.countB_le _ (by decide) _ s (Nat.le_refl _))
theorem piecesB_each (s : ByteArray) (p : ByteArray) (hp : p ∈ piecesB s) : p.size ≤ s.size := by
  have h : p.data.toList ∈ Lib.split s.data.toList [32] := by rw [← piecesB_data]; exact List.mem_map_of_mem hp
  have := splitK_len _ _ _ _ h
  simpa using this
theorem c_Split (s : ByteArray) (w : World) (hl : LibW w) (hs : s.size ≤ 1000000) :
    Calls Tryz.prog 52 #[.string s, .string ⟨#[32]⟩] w fun e w' => e = .returned (.slice (some ⟨w.heap.size, 0, none⟩) (piecesB s).length (piecesB s).length) ∧ Strs w' (some ⟨w.heap.size, 0, none⟩) (piecesB s) ∧ Below w.heap.size w w' := by
  obtain ⟨m, hm⟩ := hl.len
  refine (Tryz.strings_Split s ⟨#[32]⟩ m w (by omega) hm (by decide)).mono ?_
  rintro e w' ⟨rfl, rfl⟩
  refine ⟨by rw [piecesB_count], ⟨by have := piecesB_len s; omega, fun _ => ⟨w.heap.size, 0, rfl, fun k hk => ?_⟩⟩, by go_grown⟩
  have h := cells_new w ((piecesB s).map Value.string).toArray 9 k (.string (st (piecesB s) k)) (by simp [st, hk])
  exact add_cell ⟨w.heap.size, 0, none⟩ _ _ _ _ _ rfl h
end Go.Proofs.YthdenmbfeanioaaGreatDoor
