/- This text holds general laws of walks that all texts of this seat share, and the contracts of the range checks in package tally. -/
import Derived.Test.YthdenmbfeanioaaGreatDoorProg
import Derived.Handy
import Derived.WalkLawsBesides
import Derived.WalkSpells
import Derived.Lib.Hide
import Derived.Shelf.Abstract
import Derived.Deep.QuietTactic
import Derived.BigQuiet
import Derived.Deep.DeepMust
import Derived.Deep.DeepFit
import Derived.Laws.EntriesVeiled
import Derived.Lib.ItoaWalk
import Derived.Deep.Cut
import Derived.Deep.DeepCutAuto
import Derived.Deep.CutBlock
import Derived.Deep.RegionHeld3
namespace Go.Proofs.YthdenmbfeanioaaGreatDoor
open Go.RowKit

theorem bcell {W w1 : World} (hb : Below W.heap.size W w1) : (∀ b o, b < W.heap.size → w1.cell? ⟨b, o, none⟩ = W.cell? ⟨b, o, none⟩) ∧ (∀ b o, b < W.heap.size → w1.frozen? ⟨b, o, none⟩ = W.frozen? ⟨b, o, none⟩) :=
  ⟨fun b o h => hb.cell (p := ⟨b, o, none⟩) h, fun b o h => hb.frozen (p := ⟨b, o, none⟩) h⟩

/-- One step on: from w to W, from W to w'. -/
theorem bthen {w W w' : World} (h : Below w.heap.size w W) (k : Below W.heap.size W w') : Below w.heap.size w w' := h.trans (k.mono h.size)

theorem ret_bool {a b : Bool} (h : a = b) : Ending.returned (.bool a) = .returned (.bool b) := by rw [h]
theorem ret_int {k : IntKind} {a b : Int} (h : a = b) : Ending.returned (.int k a) = .returned (.int k b) := by rw [h]

/-- A world in which all that lay in w lies as it lay. -/
def Later (w : World) : Type := { W : World // Below w.heap.size w W }
instance (w : World) : Nonempty (Later w) := ⟨⟨w, Below.refl _ _⟩⟩
theorem Later.cell {w : World} {b o : Nat} (hb : b < w.heap.size) (x : Later w) : x.1.cell? ⟨b, o, none⟩ = w.cell? ⟨b, o, none⟩ := (bcell x.2).1 b o hb
theorem cell_lt {w : World} {b o : Nat} {v : Value} (h : w.cell? ⟨b, o, none⟩ = some v) : b < w.heap.size := World.block_lt_of_cell? w _ h
/-- A cell's fact, for all later worlds. -/
theorem later_cell {w : World} {b o : Nat} {v : Value} (h : w.cell? ⟨b, o, none⟩ = some v) : ∀ x : Later w, x.1.cell? ⟨b, o, none⟩ = some v := fun x => (x.cell (cell_lt h)).trans h

/-- A region that draws its order, whose operations read old cells and call functions that leave all old cells as they are: one walk. -/
theorem wp_region_later {P : Program} {id : Nat} {Q : Exit → Act → World → Prop} {a : Act} {w : World} {l : List Oper} (w0 : World) (hm : P.follows .mixedOrders = true) (hB : Region.lexB .any l.toArray = true) (hw : Below w0.heap.size w0 w)
    (h : wpQuiet P l.toArray (fun w' => ∃ x : Later w0, w' = x.1) (fun a' => ∀ x : Later w0, Q .normal a' x.1) l a) : (Code.region id l.toArray true).wp P Q a w := by
  refine wp_region_quiet (C := fun w' => ∃ x : Later w0, w' = x.1) hm hB ⟨⟨_, hw.drew⟩, rfl⟩ ?_
  have e : (fun a' => ∀ w', (∃ x : Later w0, w' = x.1) → Q .normal a' w') = (fun a' => ∀ x : Later w0, Q .normal a' x.1) := by
    funext a'; exact propext ⟨fun h x => h _ ⟨x, rfl⟩, fun h w' ⟨x, hx⟩ => hx ▸ h x⟩
  rw [e]; simpa using h

/-- A callee's contract inside such a region. -/
theorem in_region {P : Program} {f : FuncId} {args : Array Value} {w0 : World} {x : Later w0} {v : Value}
    (h : Calls P f args x.1 fun e w' => e = .returned v ∧ Below x.1.heap.size x.1 w') : Calls P f args x.1 fun e w'' => e = .returned v ∧ ∃ y : Later w0, w'' = y.1 :=
  h.mono fun _ w' ⟨he, hb⟩ => ⟨he, ⟨w', bthen x.2 hb⟩, rfl⟩

/-- A call of function g enters it. -/
abbrev Ent (g : FuncId) : Prop := ∀ args w, (callFunc g args).run Tryz.prog w = .ok (.enter g args) w

/-- A function value of type func(int) bool that answers p at every number of a domain, in all later worlds. -/
def Pred (g : FuncId) (env : Array Value) (dom : Int → Prop) (p : Int → Bool) (w : World) : Prop :=
  ∀ (W : World) (n : Int), dom n → Below w.heap.size w W → Calls Tryz.prog g (#[.int .i64 n] ++ env) W fun e w' => e = .returned (.bool (p n)) ∧ Below W.heap.size W w'
theorem Pred.later {g : FuncId} {env : Array Value} {dom : Int → Prop} {p : Int → Bool} {w w1 : World} (h : Pred g env dom p w) (hb : Below w.heap.size w w1) : Pred g env dom p w1 :=
  fun W n hn hW => h W n hn (bthen hb hW)

/-- The cells of a row of integers. -/
def Row (w : World) (a : Nat) (xs : List Int) : Prop := a < w.heap.size ∧ ∀ i, i < xs.length → w.cell? ⟨a, i, none⟩ = some (.int .i64 (xs[i]?.getD 0))
theorem Row.later {w w1 : World} {a : Nat} {xs : List Int} (h : Row w a xs) (hb : Below w.heap.size w w1) : Row w1 a xs :=
  ⟨Nat.lt_of_lt_of_le h.1 hb.size, fun i hi => ((bcell hb).1 a i h.1).trans (h.2 i hi)⟩

def idxBy (p : Int → Bool) : List Int → Nat → Int
  | [], _ => -1
  | x :: xs, k => if p x then (k : Int) else idxBy p xs (k + 1)
theorem idxBy_step (p : Int → Bool) (xs : List Int) (k : Nat) (h : k < xs.length) : idxBy p (xs.drop k) k = if p (xs[k]?.getD 0) then (k : Int) else idxBy p (xs.drop (k+1)) (k+1) := by
  rw [List.drop_eq_getElem_cons h, idxBy, List.getElem?_eq_getElem h]; rfl
theorem idxBy_any (p : Int → Bool) (xs : List Int) : ∀ k : Nat, decide (0 ≤ idxBy p xs k) = xs.any p := by
  induction xs with
  | nil => intro k; simp [idxBy]
  | cons x xs ih =>
    intro k
    rw [idxBy, List.any_cons]
    cases p x with
    | true => simp
    | false => simpa using ih (k + 1)

set_option maxHeartbeats 400000 in
theorem c_indexFunc (g : FuncId) (eg : Ent g) (env : Array Value) (p : Int → Bool) (xs : List Int) (a : Nat) (cap : Nat) (w : World)
    (hp : Pred g env (fun _ => True) p w) (hm : xs.length ≤ 1000000) (hc : Row w a xs) :
    Calls Tryz.prog 74 #[.slice (some ⟨a,0,none⟩) xs.length cap, .func (.func g) #[] env] w fun e w' => e = .returned (.int .i64 (idxBy p xs 0)) ∧ Below w.heap.size w w' := by
  go_enter Tryz.func74, Tryz.ntmps74
  go_wp2
  go_loopw [8] (fun v8 wr => ∃ k : Nat, k ≤ xs.length ∧ v8 = .int .i64 k ∧ idxBy p xs 0 = idxBy p (xs.drop k) k ∧ Below w.heap.size w wr) (fun v8 _ => xs.length - (intOf v8).toNat)
  case atStart => exact ⟨0, by omega, rfl, rfl, Below.refl _ _⟩
  case round =>
    obtain ⟨k, hk, rfl, hi, hb⟩ := hrel
    have HI := Lib.hid hi
    clear hi
    by_cases hlt : k < xs.length
    · have hcell : wr.cell? ⟨a, k, none⟩ = some (.int .i64 (xs[k]?.getD 0)) := (hc.later hb).2 k hlt
      clear hc
      have hst := idxBy_step p xs k hlt
      generalize xs[k]?.getD 0 = y at hcell hst
      have HS := Lib.hid hst
      clear hst
      have hcall := hp wr y trivial hb
      cases hq : p y with
      | true =>
        rw [hq] at hcall
        have HQ := Lib.hid hq
        clear hq
        go_wp2_with (go_at_fn g; refine hcall.mono ?_; rintro e w' ⟨rfl, hb'⟩)
        go_ret
        exact ⟨by rw [HI.out, HS.out, HQ.out]; rfl, bthen hb hb'⟩
      | false =>
        rw [hq] at hcall
        have HQ := Lib.hid hq
        clear hq
        go_wp2_with (go_at_fn g; refine hcall.mono ?_; rintro e w' ⟨rfl, hb'⟩)
        go_roundw
        case rel => exact ⟨k + 1, by omega, by go_num, by rw [HI.out, HS.out, HQ.out]; rfl, bthen hb hb'⟩
        case measure => simp [intOf]; omega
    · have : k = xs.length := by omega
      subst this
      go_wp2
      go_ret
      exact ⟨by rw [HI.out]; simp [idxBy], hb⟩

theorem c_containsFunc (g : FuncId) (eg : Ent g) (env : Array Value) (p : Int → Bool) (xs : List Int) (a : Nat) (cap : Nat) (w : World)
    (hp : Pred g env (fun _ => True) p w) (hm : xs.length ≤ 1000000) (hc : Row w a xs) :
    Calls Tryz.prog 54 #[.slice (some ⟨a,0,none⟩) xs.length cap, .func (.func g) #[] env] w fun e w' => e = .returned (.bool (xs.any p)) ∧ Below w.heap.size w w' := by
  rw [← idxBy_any p xs 0]
  go_enter Tryz.func54, Tryz.ntmps54
  go_wp2_with (go_at_call 74; refine (c_indexFunc g eg env p xs a cap _ hp hm hc).mono ?_; rintro e w' ⟨rfl, hb'⟩)
  go_ret
  exact ⟨rfl, hb'⟩

/-- The test of 'in': outside the range. -/
def outR (lo hi n : Int) : Bool := decide (n < lo) || decide (hi < n)
def inR (lo hi : Int) (n : Int) : Bool := decide (lo ≤ n) && decide (n ≤ hi)
theorem not_outR (lo hi n : Int) : (!outR lo hi n) = inR lo hi n := by
  unfold outR inR
  by_cases h : n < lo <;> by_cases k : hi < n <;> simp [h, k] <;> omega

theorem c_in1 (n lo hi : Int) (a b : Nat) (w : World) (hl : w.cell? ⟨a,0,none⟩ = some (.int .i64 lo)) (hh : w.cell? ⟨b,0,none⟩ = some (.int .i64 hi)) :
    Calls Tryz.prog 55 #[.int .i64 n, .pointer (some ⟨a,0,none⟩), .pointer (some ⟨b,0,none⟩)] w fun e w' => e = .returned (.bool (outR lo hi n)) ∧ w = w' := by
  unfold outR
  go_enter Tryz.func55, Tryz.ntmps55
  go_wp2
  · go_ret
    exact ⟨ret_bool (by simp), rfl⟩
  · go_ret
    exact ⟨rfl, rfl⟩

theorem c_in (lo hi : Int) (xs : List Int) (a cap : Nat) (w : World) (hm : xs.length ≤ 1000000) (hc : Row w a xs) :
    Calls Tryz.prog 34 #[.int .i64 lo, .int .i64 hi, .slice (some ⟨a,0,none⟩) xs.length cap] w fun e w' => e = .returned (.bool (!xs.any (outR lo hi))) ∧ Below w.heap.size w w' := by
  have hp : ∀ W, W.cell? ⟨w.heap.size, 0, none⟩ = some (.int .i64 lo) → W.cell? ⟨w.heap.size + 1, 0, none⟩ = some (.int .i64 hi) → Pred 55 #[.pointer (some ⟨w.heap.size, 0, none⟩), .pointer (some ⟨w.heap.size + 1, 0, none⟩)] (fun _ => True) (outR lo hi) W := by
    intro W h1 h2 W' n _ hb
    exact (c_in1 n lo hi _ _ W' (((bcell hb).1 _ _ (cell_lt h1)).trans h1) (((bcell hb).1 _ _ (cell_lt h2)).trans h2)).mono (fun e w' ⟨he, hw⟩ => ⟨he, hw ▸ Below.refl _ _⟩)
  have HP := Lib.hid hp
  clear hp
  have hmf : ∀ (fn : Fn) (first cap : Array Value) (w : World), (Instr.makeFunc fn first cap).run Tryz.prog w = .ok (.func fn first cap) w := fun _ _ _ _ => rfl
  go_enter Tryz.func34, Tryz.ntmps34
  go_wp2_with fail
  refine (c_containsFunc 55 (enters_of Tryz.func55 (by kernel_rfl) rfl) _ (outR lo hi) xs a cap _ (HP.out _ (by go_simp) (by go_simp)) hm (hc.later (((Below.refl _ _).alloc (Nat.le_refl _) _).alloc (by simp) _))).mono ?_
  rintro e w' ⟨rfl, hb'⟩
  go_wp2
  go_ret
  exact ⟨rfl, (((Below.refl _ _).alloc (Nat.le_refl _) _).alloc (by simp) _).trans (hb'.mono (by simp; omega))⟩

end Go.Proofs.YthdenmbfeanioaaGreatDoor
