/- This text is a part of the proof: Elems, Maps, Names. -/
import Derived.Test.YtlppdgaogdpajaaGreatDoorK2
set_option maxHeartbeats 1000000
namespace Go.Proofs.YtlppdgaogdpajaaGreatDoor
open Go.RowKit Go.Shelf
attribute [local go_sem] Oper.semAt_some
def byteC (x : UInt8) : List Value := [.int .u8 (x.toNat : Int)]
abbrev Bytes (w : World) (a : Option Addr) (l : List UInt8) : Prop := Lst byteC 1 w a l
theorem byte_cell {w : World} {b o : Nat} {x : UInt8} (h : CellsAt w b o (byteC x)) : w.cell? ⟨b, o, none⟩ = some (.int .u8 (x.toNat : Int)) := h 0 _ rfl
def plC (x : Pl) : List Value := [.string x.name, .int .u8 x.kind]
theorem plC_len (x : Pl) : (plC x).length = 2 := rfl
abbrev Pls (w : World) (a : Option Addr) (l : List Pl) : Prop := Lst plC 2 w a l
abbrev Pl.v (x : Pl) : Value := .agg #[.string x.name, .int .u8 x.kind]
theorem pl_cells {w : World} {b o : Nat} {x : Pl} (h : CellsAt w b o (plC x)) : w.cell? ⟨b, o, none⟩ = some (.string x.name) ∧ w.cell? ⟨b, o + 1, none⟩ = some (.int .u8 x.kind) :=
 ⟨h 0 _ rfl, h 1 _ rfl⟩
def gtC (x : Gt) : List Value := [.string x.name, .int .i64 x.a, .int .i64 x.b, .int .i64 x.most]
theorem gtC_len (x : Gt) : (gtC x).length = 4 := rfl
abbrev Gts (w : World) (a : Option Addr) (l : List Gt) : Prop := Lst gtC 4 w a l
abbrev Gt.v (x : Gt) : Value := .agg #[.string x.name, .int .i64 x.a, .int .i64 x.b, .int .i64 x.most]
theorem gt_cells {w : World} {b o : Nat} {x : Gt} (h : CellsAt w b o (gtC x)) : w.cell? ⟨b, o, none⟩ = some (.string x.name) ∧ w.cell? ⟨b, o + 1, none⟩ = some (.int .i64 x.a) ∧ w.cell? ⟨b, o + 2, none⟩ = some (.int .i64 x.b) ∧ w.cell? ⟨b, o + 3, none⟩ = some (.int .i64 x.most) :=
 ⟨h 0 _ rfl, h 1 _ rfl, h 2 _ rfl, h 3 _ rfl⟩
def rpC (x : Rp) : List Value := [.int .i64 x.id, .int .i64 x.known, .int .u8 x.kind, .int .i64 x.owner, .string x.sort, .int .i64 x.plc, .int .i64 x.tick, .int .i64 x.low, .int .i64 x.high, .int .i64 x.void]
theorem rpC_len (x : Rp) : (rpC x).length = 10 := rfl
abbrev Rps (w : World) (a : Option Addr) (l : List Rp) : Prop := Lst rpC 10 w a l
abbrev Rp.v (x : Rp) : Value := .agg #[.int .i64 x.id, .int .i64 x.known, .int .u8 x.kind, .int .i64 x.owner, .string x.sort, .int .i64 x.plc, .int .i64 x.tick, .int .i64 x.low, .int .i64 x.high, .int .i64 x.void]
theorem rp_cells {w : World} {b o : Nat} {x : Rp} (h : CellsAt w b o (rpC x)) : w.cell? ⟨b, o, none⟩ = some (.int .i64 x.id) ∧ w.cell? ⟨b, o + 1, none⟩ = some (.int .i64 x.known) ∧ w.cell? ⟨b, o + 2, none⟩ = some (.int .u8 x.kind) ∧ w.cell? ⟨b, o + 3, none⟩ = some (.int .i64 x.owner) ∧ w.cell? ⟨b, o + 4, none⟩ = some (.string x.sort) ∧ w.cell? ⟨b, o + 5, none⟩ = some (.int .i64 x.plc) ∧ w.cell? ⟨b, o + 6, none⟩ = some (.int .i64 x.tick) ∧ w.cell? ⟨b, o + 7, none⟩ = some (.int .i64 x.low) ∧ w.cell? ⟨b, o + 8, none⟩ = some (.int .i64 x.high) ∧ w.cell? ⟨b, o + 9, none⟩ = some (.int .i64 x.void) :=
 ⟨h 0 _ rfl, h 1 _ rfl, h 2 _ rfl, h 3 _ rfl, h 4 _ rfl, h 5 _ rfl, h 6 _ rfl, h 7 _ rfl, h 8 _ rfl, h 9 _ rfl⟩
abbrev RB (id known kind owner : Int) (sort : ByteArray) (plc tick low high void : Int) (w : World) (b : Nat) : Prop := w.cell? ⟨b, 0, none⟩ = some (.int .i64 id) ∧ w.cell? ⟨b, 1, none⟩ = some (.int .i64 known) ∧ w.cell? ⟨b, 2, none⟩ = some (.int .u8 kind) ∧ w.cell? ⟨b, 3, none⟩ = some (.int .i64 owner) ∧ w.cell? ⟨b, 4, none⟩ = some (.string sort) ∧ w.cell? ⟨b, 5, none⟩ = some (.int .i64 plc) ∧ w.cell? ⟨b, 6, none⟩ = some (.int .i64 tick) ∧ w.cell? ⟨b, 7, none⟩ = some (.int .i64 low) ∧ w.cell? ⟨b, 8, none⟩ = some (.int .i64 high) ∧ w.cell? ⟨b, 9, none⟩ = some (.int .i64 void)
abbrev RC (x : Rp) (w : World) (b : Nat) : Prop := w.cell? ⟨b, 0, none⟩ = some (.int .i64 x.id) ∧ w.cell? ⟨b, 1, none⟩ = some (.int .i64 x.known) ∧ w.cell? ⟨b, 2, none⟩ = some (.int .u8 x.kind) ∧ w.cell? ⟨b, 3, none⟩ = some (.int .i64 x.owner) ∧ w.cell? ⟨b, 4, none⟩ = some (.string x.sort) ∧ w.cell? ⟨b, 5, none⟩ = some (.int .i64 x.plc) ∧ w.cell? ⟨b, 6, none⟩ = some (.int .i64 x.tick) ∧ w.cell? ⟨b, 7, none⟩ = some (.int .i64 x.low) ∧ w.cell? ⟨b, 8, none⟩ = some (.int .i64 x.high) ∧ w.cell? ⟨b, 9, none⟩ = some (.int .i64 x.void)
def arC (x : Ar) : List Value := [.int .i64 x.src, .int .i64 x.dst, .int .i64 x.low, .int .i64 x.high, .int .i64 x.lowBy, .int .i64 x.highBy]
theorem arC_len (x : Ar) : (arC x).length = 6 := rfl
abbrev Ar.v (x : Ar) : Value := .agg #[.int .i64 x.src, .int .i64 x.dst, .int .i64 x.low, .int .i64 x.high, .int .i64 x.lowBy, .int .i64 x.highBy]
theorem ar_cells {w : World} {b o : Nat} {x : Ar} (h : CellsAt w b o (arC x)) : w.cell? ⟨b, o, none⟩ = some (.int .i64 x.src) ∧ w.cell? ⟨b, o + 1, none⟩ = some (.int .i64 x.dst) ∧ w.cell? ⟨b, o + 2, none⟩ = some (.int .i64 x.low) ∧ w.cell? ⟨b, o + 3, none⟩ = some (.int .i64 x.high) ∧ w.cell? ⟨b, o + 4, none⟩ = some (.int .i64 x.lowBy) ∧ w.cell? ⟨b, o + 5, none⟩ = some (.int .i64 x.highBy) :=
 ⟨h 0 _ rfl, h 1 _ rfl, h 2 _ rfl, h 3 _ rfl, h 4 _ rfl, h 5 _ rfl⟩
theorem toList_inj {a b : ByteArray} (h : a.toList = b.toList) : a = b := by
 rw [ByteArray.toList_eq, ByteArray.toList_eq] at h
 exact ByteArray.ext (Array.toList_inj.1 h)
def PredL {α : Type} (g : FuncId) (env : Array Value) (val : α → Value) (l : List α) (p : α → Bool) (w : World) : Prop :=
 ∀ (W : World) (x : α), x ∈ l → Below w.heap.size w W → Calls Tryz.prog g (#[val x] ++ env) W fun e w' => e = .returned (.bool (p x)) ∧ Below W.heap.size W w'
theorem PredL.later {α : Type} {g : FuncId} {env : Array Value} {val : α → Value} {l : List α} {p : α → Bool} {w w1 : World} (h : PredL g env val l p w) (hb : Below w.heap.size w w1) : PredL g env val l p w1 :=
 fun W x hx hW => h W x hx (bthen hb hW)
theorem idxP_step {α : Type} (p : α → Bool) {l : List α} {k : Nat} {x : α} (h : l[k]? = some x) : idxP p (l.drop k) k = if p x then (k : Int) else idxP p (l.drop (k + 1)) (k + 1) := by
 have hk := some_lt h
 have e : l[k] = x := by simpa [hk] using h
 rw [List.drop_eq_getElem_cons hk, idxP, e]
theorem idxP_any {α : Type} (p : α → Bool) (l : List α) : ∀ k : Nat, decide (0 ≤ idxP p l k) = l.any p := by
 induction l with
 | nil => intro k; simp [idxP]
 | cons x l ih =>
  intro k
  rw [idxP, List.any_cons]
  cases p x with
  | true => simp
  | false => simpa using ih (k + 1)
theorem c_idxByte (g : FuncId) (eg : Ent g) (env : Array Value) (p : UInt8 → Bool) (l : List UInt8) (a : Option Addr) (cap : Nat) (w : World) (hp : PredL g env (fun x : UInt8 => .int .u8 (x.toNat : Int)) l p w) (hl : Bytes w a l) :
  Calls Tryz.prog 205 #[.slice a l.length cap, .func (.func g) #[] env] w fun e w' => e = .returned (.int .i64 (idxP p l 0)) ∧ Below w.heap.size w w' := by
 have hlen := hl.1
 have HL := Lib.hid hl
 have HP := Lib.hid hp
 clear hl hp
 go_enter Tryz.func205, Tryz.ntmps205
 go_wp2
 go_loopw [8] (fun v8 wr => ∃ k : Nat, k ≤ l.length ∧ v8 = .int .i64 k ∧ idxP p l 0 = idxP p (l.drop k) k ∧ Below w.heap.size w wr) (fun v8 _ => l.length - (intOf v8).toNat)
 case atStart => exact ⟨0, by omega, rfl, rfl, Below.refl _ _⟩
 case round =>
  obtain ⟨k, hk, rfl, hi, hb⟩ := hrel
  have HI := Lib.hid hi
  clear hi
  by_cases hlt : k < l.length
  ·obtain ⟨x, hx⟩ := some_at hlt
   obtain ⟨b, o, rfl, hat⟩ := (HL.out.later hb).at hx
   rw [Nat.mul_one] at hat
   have y0 := byte_cell hat
   have hst := idxP_step p hx
   have hcall := HP.out wr x (some_mem hx) hb
   have HS := Lib.hid hst
   have hi1 : ¬ (k : Int) < 0 := by omega
   have hi2 : (k : Int) < (l.length : Int) := by omega
   clear hx hat hst
   cases hq : p x with
   | true =>
    rw [hq] at hcall
    have HQ := Lib.hid hq
    have HC := Lib.hid hcall
    clear hq hcall
    go_wp2_with (go_at_fn g; refine HC.out.mono ?_; rintro e w' ⟨rfl, hb'⟩)
    go_ret
    exact ⟨by rw [HI.out, HS.out, HQ.out]; rfl, bthen hb hb'⟩
   | false =>
    rw [hq] at hcall
    have HQ := Lib.hid hq
    have HC := Lib.hid hcall
    clear hq hcall
    go_wp2_with (go_at_fn g; refine HC.out.mono ?_; rintro e w' ⟨rfl, hb'⟩)
    go_roundw
    case rel => exact ⟨k + 1, by omega, by go_num, by rw [HI.out, HS.out, HQ.out]; rfl, bthen hb hb'⟩
    case measure => simp [intOf]; omega
  ·obtain rfl : k = l.length := by omega
   go_wp2
   go_ret
   exact ⟨by rw [HI.out]; simp [idxP], hb⟩
theorem c_anyByte (g : FuncId) (eg : Ent g) (env : Array Value) (p : UInt8 → Bool) (l : List UInt8) (a : Option Addr) (cap : Nat) (w : World) (hp : PredL g env (fun x : UInt8 => .int .u8 (x.toNat : Int)) l p w) (hl : Bytes w a l) :
  Calls Tryz.prog 170 #[.slice a l.length cap, .func (.func g) #[] env] w fun e w' => e = .returned (.bool (l.any p)) ∧ Below w.heap.size w w' := by
 rw [← idxP_any p l 0]
 have hc := c_idxByte g eg env p l a cap w hp hl
 have HC := Lib.hid hc
 clear hc hl hp
 go_enter Tryz.func170, Tryz.ntmps170
 go_wp2_with (go_at_call 205; refine HC.out.mono ?_; rintro e w' ⟨rfl, hb'⟩)
 go_ret
 exact ⟨rfl, hb'⟩
theorem c_idxStr (g : FuncId) (eg : Ent g) (env : Array Value) (p : ByteArray → Bool) (l : List ByteArray) (a : Option Addr) (cap : Nat) (w : World) (hp : PredL g env (fun x : ByteArray => .string x) l p w) (hl : Strs w a l) :
  Calls Tryz.prog 172 #[.slice a l.length cap, .func (.func g) #[] env] w fun e w' => e = .returned (.int .i64 (idxP p l 0)) ∧ Below w.heap.size w w' := by
 have hlen := hl.1
 have HL := Lib.hid hl
 have HP := Lib.hid hp
 clear hl hp
 go_enter Tryz.func172, Tryz.ntmps172
 go_wp2
 go_loopw [8] (fun v8 wr => ∃ k : Nat, k ≤ l.length ∧ v8 = .int .i64 k ∧ idxP p l 0 = idxP p (l.drop k) k ∧ Below w.heap.size w wr) (fun v8 _ => l.length - (intOf v8).toNat)
 case atStart => exact ⟨0, by omega, rfl, rfl, Below.refl _ _⟩
 case round =>
  obtain ⟨k, hk, rfl, hi, hb⟩ := hrel
  have HI := Lib.hid hi
  clear hi
  by_cases hlt : k < l.length
  ·obtain ⟨x, hx⟩ := some_at hlt
   obtain ⟨b, o, rfl, hat⟩ := (HL.out.later hb).at hx
   rw [Nat.mul_one] at hat
   have y0 := str_cell hat
   have hst := idxP_step p hx
   have hcall := HP.out wr x (some_mem hx) hb
   have HS := Lib.hid hst
   have hi1 : ¬ (k : Int) < 0 := by omega
   have hi2 : (k : Int) < (l.length : Int) := by omega
   clear hx hat hst
   cases hq : p x with
   | true =>
    rw [hq] at hcall
    have HQ := Lib.hid hq
    have HC := Lib.hid hcall
    clear hq hcall
    go_wp2_with (go_at_fn g; refine HC.out.mono ?_; rintro e w' ⟨rfl, hb'⟩)
    go_ret
    exact ⟨by rw [HI.out, HS.out, HQ.out]; rfl, bthen hb hb'⟩
   | false =>
    rw [hq] at hcall
    have HQ := Lib.hid hq
    have HC := Lib.hid hcall
    clear hq hcall
    go_wp2_with (go_at_fn g; refine HC.out.mono ?_; rintro e w' ⟨rfl, hb'⟩)
    go_roundw
    case rel => exact ⟨k + 1, by omega, by go_num, by rw [HI.out, HS.out, HQ.out]; rfl, bthen hb hb'⟩
    case measure => simp [intOf]; omega
  ·obtain rfl : k = l.length := by omega
   go_wp2
   go_ret
   exact ⟨by rw [HI.out]; simp [idxP], hb⟩
theorem c_anyStr (g : FuncId) (eg : Ent g) (env : Array Value) (p : ByteArray → Bool) (l : List ByteArray) (a : Option Addr) (cap : Nat) (w : World) (hp : PredL g env (fun x : ByteArray => .string x) l p w) (hl : Strs w a l) :
  Calls Tryz.prog 101 #[.slice a l.length cap, .func (.func g) #[] env] w fun e w' => e = .returned (.bool (l.any p)) ∧ Below w.heap.size w w' := by
 rw [← idxP_any p l 0]
 have hc := c_idxStr g eg env p l a cap w hp hl
 have HC := Lib.hid hc
 clear hc hl hp
 go_enter Tryz.func101, Tryz.ntmps101
 go_wp2_with (go_at_call 172; refine HC.out.mono ?_; rintro e w' ⟨rfl, hb'⟩)
 go_ret
 exact ⟨rfl, hb'⟩
theorem c_idxNum (g : FuncId) (eg : Ent g) (env : Array Value) (p : Int → Bool) (l : List Int) (a : Option Addr) (cap : Nat) (w : World) (hp : PredL g env (fun x : Int => .int .i64 x) l p w) (hl : Nums w a l) :
  Calls Tryz.prog 209 #[.slice a l.length cap, .func (.func g) #[] env] w fun e w' => e = .returned (.int .i64 (idxP p l 0)) ∧ Below w.heap.size w w' := by
 have hlen := hl.1
 have HL := Lib.hid hl
 have HP := Lib.hid hp
 clear hl hp
 go_enter Tryz.func209, Tryz.ntmps209
 go_wp2
 go_loopw [8] (fun v8 wr => ∃ k : Nat, k ≤ l.length ∧ v8 = .int .i64 k ∧ idxP p l 0 = idxP p (l.drop k) k ∧ Below w.heap.size w wr) (fun v8 _ => l.length - (intOf v8).toNat)
 case atStart => exact ⟨0, by omega, rfl, rfl, Below.refl _ _⟩
 case round =>
  obtain ⟨k, hk, rfl, hi, hb⟩ := hrel
  have HI := Lib.hid hi
  clear hi
  by_cases hlt : k < l.length
  ·obtain ⟨x, hx⟩ := some_at hlt
   obtain ⟨b, o, rfl, hat⟩ := (HL.out.later hb).at hx
   rw [Nat.mul_one] at hat
   have y0 := num_cell hat
   have hst := idxP_step p hx
   have hcall := HP.out wr x (some_mem hx) hb
   have HS := Lib.hid hst
   have hi1 : ¬ (k : Int) < 0 := by omega
   have hi2 : (k : Int) < (l.length : Int) := by omega
   clear hx hat hst
   cases hq : p x with
   | true =>
    rw [hq] at hcall
    have HQ := Lib.hid hq
    have HC := Lib.hid hcall
    clear hq hcall
    go_wp2_with (go_at_fn g; refine HC.out.mono ?_; rintro e w' ⟨rfl, hb'⟩)
    go_ret
    exact ⟨by rw [HI.out, HS.out, HQ.out]; rfl, bthen hb hb'⟩
   | false =>
    rw [hq] at hcall
    have HQ := Lib.hid hq
    have HC := Lib.hid hcall
    clear hq hcall
    go_wp2_with (go_at_fn g; refine HC.out.mono ?_; rintro e w' ⟨rfl, hb'⟩)
    go_roundw
    case rel => exact ⟨k + 1, by omega, by go_num, by rw [HI.out, HS.out, HQ.out]; rfl, bthen hb hb'⟩
    case measure => simp [intOf]; omega
  ·obtain rfl : k = l.length := by omega
   go_wp2
   go_ret
   exact ⟨by rw [HI.out]; simp [idxP], hb⟩
theorem c_anyNum (g : FuncId) (eg : Ent g) (env : Array Value) (p : Int → Bool) (l : List Int) (a : Option Addr) (cap : Nat) (w : World) (hp : PredL g env (fun x : Int => .int .i64 x) l p w) (hl : Nums w a l) :
  Calls Tryz.prog 190 #[.slice a l.length cap, .func (.func g) #[] env] w fun e w' => e = .returned (.bool (l.any p)) ∧ Below w.heap.size w w' := by
 rw [← idxP_any p l 0]
 have hc := c_idxNum g eg env p l a cap w hp hl
 have HC := Lib.hid hc
 clear hc hl hp
 go_enter Tryz.func190, Tryz.ntmps190
 go_wp2_with (go_at_call 209; refine HC.out.mono ?_; rintro e w' ⟨rfl, hb'⟩)
 go_ret
 exact ⟨rfl, hb'⟩
theorem c_idxPl (g : FuncId) (eg : Ent g) (env : Array Value) (p : Pl → Bool) (l : List Pl) (a : Option Addr) (cap : Nat) (w : World) (hp : PredL g env (fun x : Pl => x.v) l p w) (hl : Pls w a l) :
  Calls Tryz.prog 177 #[.slice a l.length cap, .func (.func g) #[] env] w fun e w' => e = .returned (.int .i64 (idxP p l 0)) ∧ Below w.heap.size w w' := by
 have hlen := hl.1
 have HL := Lib.hid hl
 have HP := Lib.hid hp
 clear hl hp
 go_enter Tryz.func177, Tryz.ntmps177
 go_wp2
 go_loopw [8] (fun v8 wr => ∃ k : Nat, k ≤ l.length ∧ v8 = .int .i64 k ∧ idxP p l 0 = idxP p (l.drop k) k ∧ Below w.heap.size w wr) (fun v8 _ => l.length - (intOf v8).toNat)
 case atStart => exact ⟨0, by omega, rfl, rfl, Below.refl _ _⟩
 case round =>
  obtain ⟨k, hk, rfl, hi, hb⟩ := hrel
  have HI := Lib.hid hi
  clear hi
  by_cases hlt : k < l.length
  ·obtain ⟨x, hx⟩ := some_at hlt
   obtain ⟨b, o, rfl, hat⟩ := (HL.out.later hb).at hx
   obtain ⟨y0, y1⟩ := pl_cells hat
   have hst := idxP_step p hx
   have hcall := HP.out wr x (some_mem hx) hb
   have HS := Lib.hid hst
   have hi1 : ¬ (k : Int) < 0 := by omega
   have hi2 : (k : Int) < (l.length : Int) := by omega
   clear hx hat hst
   cases hq : p x with
   | true =>
    rw [hq] at hcall
    have HQ := Lib.hid hq
    have HC := Lib.hid hcall
    clear hq hcall
    go_wp2_with (go_at_fn g; refine HC.out.mono ?_; rintro e w' ⟨rfl, hb'⟩)
    go_ret
    exact ⟨by rw [HI.out, HS.out, HQ.out]; rfl, bthen hb hb'⟩
   | false =>
    rw [hq] at hcall
    have HQ := Lib.hid hq
    have HC := Lib.hid hcall
    clear hq hcall
    go_wp2_with (go_at_fn g; refine HC.out.mono ?_; rintro e w' ⟨rfl, hb'⟩)
    go_roundw
    case rel => exact ⟨k + 1, by omega, by go_num, by rw [HI.out, HS.out, HQ.out]; rfl, bthen hb hb'⟩
    case measure => simp [intOf]; omega
  ·obtain rfl : k = l.length := by omega
   go_wp2
   go_ret
   exact ⟨by rw [HI.out]; simp [idxP], hb⟩
theorem c_anyPl (g : FuncId) (eg : Ent g) (env : Array Value) (p : Pl → Bool) (l : List Pl) (a : Option Addr) (cap : Nat) (w : World) (hp : PredL g env (fun x : Pl => x.v) l p w) (hl : Pls w a l) :
  Calls Tryz.prog 105 #[.slice a l.length cap, .func (.func g) #[] env] w fun e w' => e = .returned (.bool (l.any p)) ∧ Below w.heap.size w w' := by
 rw [← idxP_any p l 0]
 have hc := c_idxPl g eg env p l a cap w hp hl
 have HC := Lib.hid hc
 clear hc hl hp
 go_enter Tryz.func105, Tryz.ntmps105
 go_wp2_with (go_at_call 177; refine HC.out.mono ?_; rintro e w' ⟨rfl, hb'⟩)
 go_ret
 exact ⟨rfl, hb'⟩
theorem c_idxGt (g : FuncId) (eg : Ent g) (env : Array Value) (p : Gt → Bool) (l : List Gt) (a : Option Addr) (cap : Nat) (w : World) (hp : PredL g env (fun x : Gt => x.v) l p w) (hl : Gts w a l) :
  Calls Tryz.prog 178 #[.slice a l.length cap, .func (.func g) #[] env] w fun e w' => e = .returned (.int .i64 (idxP p l 0)) ∧ Below w.heap.size w w' := by
 have hlen := hl.1
 have HL := Lib.hid hl
 have HP := Lib.hid hp
 clear hl hp
 go_enter Tryz.func178, Tryz.ntmps178
 go_wp2
 go_loopw [8] (fun v8 wr => ∃ k : Nat, k ≤ l.length ∧ v8 = .int .i64 k ∧ idxP p l 0 = idxP p (l.drop k) k ∧ Below w.heap.size w wr) (fun v8 _ => l.length - (intOf v8).toNat)
 case atStart => exact ⟨0, by omega, rfl, rfl, Below.refl _ _⟩
 case round =>
  obtain ⟨k, hk, rfl, hi, hb⟩ := hrel
  have HI := Lib.hid hi
  clear hi
  by_cases hlt : k < l.length
  ·obtain ⟨x, hx⟩ := some_at hlt
   obtain ⟨b, o, rfl, hat⟩ := (HL.out.later hb).at hx
   obtain ⟨y0, y1, y2, y3⟩ := gt_cells hat
   have hst := idxP_step p hx
   have hcall := HP.out wr x (some_mem hx) hb
   have HS := Lib.hid hst
   have hi1 : ¬ (k : Int) < 0 := by omega
   have hi2 : (k : Int) < (l.length : Int) := by omega
   clear hx hat hst
   cases hq : p x with
   | true =>
    rw [hq] at hcall
    have HQ := Lib.hid hq
    have HC := Lib.hid hcall
    clear hq hcall
    go_wp2_with (go_at_fn g; refine HC.out.mono ?_; rintro e w' ⟨rfl, hb'⟩)
    go_ret
    exact ⟨by rw [HI.out, HS.out, HQ.out]; rfl, bthen hb hb'⟩
   | false =>
    rw [hq] at hcall
    have HQ := Lib.hid hq
    have HC := Lib.hid hcall
    clear hq hcall
    go_wp2_with (go_at_fn g; refine HC.out.mono ?_; rintro e w' ⟨rfl, hb'⟩)
    go_roundw
    case rel => exact ⟨k + 1, by omega, by go_num, by rw [HI.out, HS.out, HQ.out]; rfl, bthen hb hb'⟩
    case measure => simp [intOf]; omega
  ·obtain rfl : k = l.length := by omega
   go_wp2
   go_ret
   exact ⟨by rw [HI.out]; simp [idxP], hb⟩
theorem c_anyGt (g : FuncId) (eg : Ent g) (env : Array Value) (p : Gt → Bool) (l : List Gt) (a : Option Addr) (cap : Nat) (w : World) (hp : PredL g env (fun x : Gt => x.v) l p w) (hl : Gts w a l) :
  Calls Tryz.prog 107 #[.slice a l.length cap, .func (.func g) #[] env] w fun e w' => e = .returned (.bool (l.any p)) ∧ Below w.heap.size w w' := by
 rw [← idxP_any p l 0]
 have hc := c_idxGt g eg env p l a cap w hp hl
 have HC := Lib.hid hc
 clear hc hl hp
 go_enter Tryz.func107, Tryz.ntmps107
 go_wp2_with (go_at_call 178; refine HC.out.mono ?_; rintro e w' ⟨rfl, hb'⟩)
 go_ret
 exact ⟨rfl, hb'⟩
theorem c_idxRp (g : FuncId) (eg : Ent g) (env : Array Value) (p : Rp → Bool) (l : List Rp) (a : Option Addr) (cap : Nat) (w : World) (hp : PredL g env (fun x : Rp => x.v) l p w) (hl : Rps w a l) :
  Calls Tryz.prog 206 #[.slice a l.length cap, .func (.func g) #[] env] w fun e w' => e = .returned (.int .i64 (idxP p l 0)) ∧ Below w.heap.size w w' := by
 have hlen := hl.1
 have HL := Lib.hid hl
 have HP := Lib.hid hp
 clear hl hp
 go_enter Tryz.func206, Tryz.ntmps206
 go_wp2
 go_loopw [8] (fun v8 wr => ∃ k : Nat, k ≤ l.length ∧ v8 = .int .i64 k ∧ idxP p l 0 = idxP p (l.drop k) k ∧ Below w.heap.size w wr) (fun v8 _ => l.length - (intOf v8).toNat)
 case atStart => exact ⟨0, by omega, rfl, rfl, Below.refl _ _⟩
 case round =>
  obtain ⟨k, hk, rfl, hi, hb⟩ := hrel
  have HI := Lib.hid hi
  clear hi
  by_cases hlt : k < l.length
  ·obtain ⟨x, hx⟩ := some_at hlt
   obtain ⟨b, o, rfl, hat⟩ := (HL.out.later hb).at hx
   obtain ⟨y0, y1, y2, y3, y4, y5, y6, y7, y8, y9⟩ := rp_cells hat
   have hst := idxP_step p hx
   have hcall := HP.out wr x (some_mem hx) hb
   have HS := Lib.hid hst
   have hi1 : ¬ (k : Int) < 0 := by omega
   have hi2 : (k : Int) < (l.length : Int) := by omega
   clear hx hat hst
   cases hq : p x with
   | true =>
    rw [hq] at hcall
    have HQ := Lib.hid hq
    have HC := Lib.hid hcall
    clear hq hcall
    go_wp2_with (go_at_fn g; refine HC.out.mono ?_; rintro e w' ⟨rfl, hb'⟩)
    go_ret
    exact ⟨by rw [HI.out, HS.out, HQ.out]; rfl, bthen hb hb'⟩
   | false =>
    rw [hq] at hcall
    have HQ := Lib.hid hq
    have HC := Lib.hid hcall
    clear hq hcall
    go_wp2_with (go_at_fn g; refine HC.out.mono ?_; rintro e w' ⟨rfl, hb'⟩)
    go_roundw
    case rel => exact ⟨k + 1, by omega, by go_num, by rw [HI.out, HS.out, HQ.out]; rfl, bthen hb hb'⟩
    case measure => simp [intOf]; omega
  ·obtain rfl : k = l.length := by omega
   go_wp2
   go_ret
   exact ⟨by rw [HI.out]; simp [idxP], hb⟩
theorem c_anyRp (g : FuncId) (eg : Ent g) (env : Array Value) (p : Rp → Bool) (l : List Rp) (a : Option Addr) (cap : Nat) (w : World) (hp : PredL g env (fun x : Rp => x.v) l p w) (hl : Rps w a l) :
  Calls Tryz.prog 179 #[.slice a l.length cap, .func (.func g) #[] env] w fun e w' => e = .returned (.bool (l.any p)) ∧ Below w.heap.size w w' := by
 rw [← idxP_any p l 0]
 have hc := c_idxRp g eg env p l a cap w hp hl
 have HC := Lib.hid hc
 clear hc hl hp
 go_enter Tryz.func179, Tryz.ntmps179
 go_wp2_with (go_at_call 206; refine HC.out.mono ?_; rintro e w' ⟨rfl, hb'⟩)
 go_ret
 exact ⟨rfl, hb'⟩
theorem c_Index (s : ByteArray) (l : List ByteArray) (a : Option Addr) (cap : Nat) (w : World) (hl : Strs w a l) :
  Calls Tryz.prog 134 #[.slice a l.length cap, .string s] w fun e w' => e = .returned (.int .i64 (idxS l s)) ∧ Below w.heap.size w w' := by
 have hlen := hl.1
 have HL := Lib.hid hl
 clear hl
 unfold idxS
 go_enter Tryz.func134, Tryz.ntmps134
 go_wp2
 go_loopw [8] (fun v8 wr => ∃ k : Nat, k ≤ l.length ∧ v8 = .int .i64 k ∧ idxP (fun x => decide (x = s)) l 0 = idxP (fun x => decide (x = s)) (l.drop k) k ∧ Below w.heap.size w wr) (fun v8 _ => l.length - (intOf v8).toNat)
 case atStart => exact ⟨0, by omega, rfl, rfl, Below.refl _ _⟩
 case round =>
  obtain ⟨k, hk, rfl, hi, hb⟩ := hrel
  have HI := Lib.hid hi
  clear hi
  by_cases hlt : k < l.length
  ·obtain ⟨x, hx⟩ := some_at hlt
   obtain ⟨b, o, rfl, hat⟩ := (HL.out.later hb).at hx
   rw [Nat.mul_one] at hat
   have y0 := str_cell hat
   have hst := idxP_step (fun x => decide (x = s)) hx
   have HS := Lib.hid hst
   have hi1 : ¬ (k : Int) < 0 := by omega
   have hi2 : (k : Int) < (l.length : Int) := by omega
   clear hx hat hst
   by_cases he : x = s
   ·subst he
    have ht : (x.toList == x.toList) = true := by simp
    go_wp2
    go_ret
    exact ⟨by rw [HI.out, HS.out]; simp, hb⟩
   ·have ht : (s.toList == x.toList) = false := by
     rw [beq_eq_false_iff_ne]
     exact fun h => he (toList_inj h).symm
    have hf : decide (x = s) = false := by simpa using he
    have HF := Lib.hid hf
    have HE := Lib.hid he
    clear hf he
    go_wp2
    go_roundw
    case rel => exact ⟨k + 1, by omega, by go_num, by rw [HI.out, HS.out, HF.out]; rfl, hb⟩
    case measure => simp [intOf]; omega
  ·obtain rfl : k = l.length := by omega
   go_wp2
   go_ret
   exact ⟨by rw [HI.out]; simp [idxP], hb⟩
end Go.Proofs.YtlppdgaogdpajaaGreatDoor
namespace Go.Proofs.YtlppdgaogdpajaaGreatDoor
open Go.RowKit Go.Maps
theorem plainBool_inv {P : Program} {e : TypeId} {v : Value} {x : Bool} {ps : List MemPlace} (he : P.underlying e = some .bool) (h : plainElem (H := Unit) P e v = some (.lit (.bool x), ps)) : v = .bool x := by
 unfold plainElem at h
 rw [he] at h
 split at h
 ·simp_all
 ·simp_all
 ·simp_all
 ·simp_all
theorem zero_bool (w : World) : (zeroValue 4).run Tryz.prog w = .ok (.bool false) w := by kernel_rfl
theorem lawSetS : Keyed Tryz.prog 9 := string_keyed Tryz.underlying9
theorem keySetS {s : ByteArray} (hs : s.size ≤ 1000000) : keyOf Tryz.prog 9 (.string s) = some (.string s.data.toList) := Go.WideMaps.keyOf_string_mk Tryz.underlying9 (by unfold maxLen; omega)
def SetS (w : World) (b n : Nat) (S : ByteArray → Bool) : Prop :=
 ∃ D : DataW Unit, w.ownsMap Tryz.prog 9 (plainElem Tryz.prog 4) b n D ∧ ∀ s : ByteArray, s.size ≤ 1000000 → D.atKey (.string s.data.toList) (.lit (.bool false)) = .lit (.bool (S s))
theorem SetS.made (w : World) : SetS (w.alloc (.map #[] 0)) w.heap.size 0 (fun _ => false) := ⟨_, World.ownsMap_made _ _ _ _, fun _ _ => rfl⟩
theorem SetS.later {w w1 : World} {b n : Nat} {S : ByteArray → Bool} (h : SetS w b n S) (hb : Below w.heap.size w w1) : SetS w1 b n S := by
 obtain ⟨D, ⟨es, clock, hh, F, hs, hD⟩, hat⟩ := h
 have hlt : b < w.heap.size := (Array.getElem?_eq_some_iff.1 hh).1
 exact ⟨D, ⟨es, clock, (hb.block b hlt).trans hh, F, hs, hD⟩, hat⟩
theorem SetS.kept {O : Nat → Prop} {w w1 : World} {b n : Nat} {S : ByteArray → Bool} (h : SetS w b n S) (hk : Kept O w w1) (hn : ¬ O b) : SetS w1 b n S := by
 obtain ⟨D, ⟨es, clock, hh, F, hs, hD⟩, hat⟩ := h
 have hlt : b < w.heap.size := (Array.getElem?_eq_some_iff.1 hh).1
 exact ⟨D, ⟨es, clock, (hk.block b hlt hn).trans hh, F, hs, hD⟩, hat⟩
theorem SetS.look {w : World} {b n : Nat} {S : ByteArray → Bool} (h : SetS w b n S) (s : ByteArray) (hs : s.size ≤ 1000000) : (Instr.lookup 91 (.map (some b)) (.string s) false).run Tryz.prog w = .ok (.bool (S s)) w := by
 obtain ⟨D, hown, hat⟩ := h
 obtain ⟨v, ps, hrun, hv⟩ := hown.lookup lawSetS Tryz.underlying91 (zero_bool w) (zd := .lit (.bool false)) (zp := []) (plainElem_bool Tryz.underlying4 false) (keySetS hs)
 rw [hat s hs] at hv
 rw [hrun, plainBool_inv Tryz.underlying4 hv]
theorem SetS.put {w : World} {ops : Array Oper} {rest : List Oper} {o : Oper} {a : Act} {Q : Exit → Act → World → Prop} {b n : Nat} {S : ByteArray → Bool} (h : SetS w b n S) (hn : n < 1000000)
  (hg : o.guard = none) (m x v : Operand) (hop : o.op = Op.mapUpdate 91 m x v) (hm : a.eval m = .map (some b)) (s : ByteArray) (hs : s.size ≤ 1000000) (hx : a.eval x = .string s) (y : Bool) (hv : a.eval v = .bool y)
  (hK : ∀ w', SetS w' b (n + 1) (fun t => if t = s then y else S t) → w.grownBy w' (some b) → wpList Tryz.prog ops Q rest (a.put o.dst undef) w') : wpList Tryz.prog ops Q (o :: rest) a w := by
 obtain ⟨D, hown, hat⟩ := h
 refine wpList_mapUpdate_own w hg m x v _ hop _ _ lawSetS Tryz.underlying91 _ b n D hm hown (by unfold maxLen; omega) _ _ _ hx hv (keySetS hs) (.lit (.bool y)) [] (plainElem_bool Tryz.underlying4 y) (fun w' h1 h2 => hK w' ⟨_, h1, fun t ht => ?_⟩ h2)
 by_cases hne : t = s
 ·subst hne
  show _ = DataW.lit (Lit.bool (if t = t then y else S t))
  rw [if_pos rfl]
  exact atKey_put_same (k := .string t.data.toList) hown.isMap (show WideAt.IsKeyLit (.string t.data.toList) from trivial) _ _
 ·show _ = DataW.lit (Lit.bool (if t = s then y else S t))
  rw [if_neg hne, ← hat t ht]
  exact atKey_put_other (fun e => hne (ByteArray.ext (Array.toList_inj.1 (by simpa using e)))) _ _
theorem lawSetI : Keyed Tryz.prog 3 := int_keyed Tryz.underlying3
theorem keySetI {s : Int} (hs : -9223372036854775808 ≤ s ∧ s ≤ 9223372036854775807) : keyOf Tryz.prog 3 (.int .i64 s) = some (.int .i64 s) := keyOf_int_mk Tryz.underlying3 (WalkArith.wf_i64 hs)
def SetI (w : World) (b n : Nat) (S : Int → Bool) : Prop :=
 ∃ D : DataW Unit, w.ownsMap Tryz.prog 3 (plainElem Tryz.prog 4) b n D ∧ ∀ s : Int, -9223372036854775808 ≤ s ∧ s ≤ 9223372036854775807 → D.atKey (.int .i64 s) (.lit (.bool false)) = .lit (.bool (S s))
theorem SetI.made (w : World) : SetI (w.alloc (.map #[] 0)) w.heap.size 0 (fun _ => false) := ⟨_, World.ownsMap_made _ _ _ _, fun _ _ => rfl⟩
theorem SetI.later {w w1 : World} {b n : Nat} {S : Int → Bool} (h : SetI w b n S) (hb : Below w.heap.size w w1) : SetI w1 b n S := by
 obtain ⟨D, ⟨es, clock, hh, F, hs, hD⟩, hat⟩ := h
 have hlt : b < w.heap.size := (Array.getElem?_eq_some_iff.1 hh).1
 exact ⟨D, ⟨es, clock, (hb.block b hlt).trans hh, F, hs, hD⟩, hat⟩
theorem SetI.kept {O : Nat → Prop} {w w1 : World} {b n : Nat} {S : Int → Bool} (h : SetI w b n S) (hk : Kept O w w1) (hn : ¬ O b) : SetI w1 b n S := by
 obtain ⟨D, ⟨es, clock, hh, F, hs, hD⟩, hat⟩ := h
 have hlt : b < w.heap.size := (Array.getElem?_eq_some_iff.1 hh).1
 exact ⟨D, ⟨es, clock, (hk.block b hlt hn).trans hh, F, hs, hD⟩, hat⟩
theorem SetI.look {w : World} {b n : Nat} {S : Int → Bool} (h : SetI w b n S) (s : Int) (hs : -9223372036854775808 ≤ s ∧ s ≤ 9223372036854775807) : (Instr.lookup 204 (.map (some b)) (.int .i64 s) false).run Tryz.prog w = .ok (.bool (S s)) w := by
 obtain ⟨D, hown, hat⟩ := h
 obtain ⟨v, ps, hrun, hv⟩ := hown.lookup lawSetI Tryz.underlying204 (zero_bool w) (zd := .lit (.bool false)) (zp := []) (plainElem_bool Tryz.underlying4 false) (keySetI hs)
 rw [hat s hs] at hv
 rw [hrun, plainBool_inv Tryz.underlying4 hv]
theorem SetI.put {w : World} {ops : Array Oper} {rest : List Oper} {o : Oper} {a : Act} {Q : Exit → Act → World → Prop} {b n : Nat} {S : Int → Bool} (h : SetI w b n S) (hn : n < 1000000)
  (hg : o.guard = none) (m x v : Operand) (hop : o.op = Op.mapUpdate 204 m x v) (hm : a.eval m = .map (some b)) (s : Int) (hs : -9223372036854775808 ≤ s ∧ s ≤ 9223372036854775807) (hx : a.eval x = .int .i64 s) (y : Bool) (hv : a.eval v = .bool y)
  (hK : ∀ w', SetI w' b (n + 1) (fun t => if t = s then y else S t) → w.grownBy w' (some b) → wpList Tryz.prog ops Q rest (a.put o.dst undef) w') : wpList Tryz.prog ops Q (o :: rest) a w := by
 obtain ⟨D, hown, hat⟩ := h
 refine wpList_mapUpdate_own w hg m x v _ hop _ _ lawSetI Tryz.underlying204 _ b n D hm hown (by unfold maxLen; omega) _ _ _ hx hv (keySetI hs) (.lit (.bool y)) [] (plainElem_bool Tryz.underlying4 y) (fun w' h1 h2 => hK w' ⟨_, h1, fun t ht => ?_⟩ h2)
 by_cases hne : t = s
 ·subst hne
  show _ = DataW.lit (Lit.bool (if t = t then y else S t))
  rw [if_pos rfl]
  exact atKey_put_same (k := .int .i64 t) hown.isMap (show WideAt.IsKeyLit (.int .i64 t) from trivial) _ _
 ·show _ = DataW.lit (Lit.bool (if t = s then y else S t))
  rw [if_neg hne, ← hat t ht]
  exact atKey_put_other (fun e => hne (by simpa using e)) _ _
end Go.Proofs.YtlppdgaogdpajaaGreatDoor
namespace Go.Proofs.YtlppdgaogdpajaaGreatDoor
theorem twiceB_append (l : List ByteArray) (x : ByteArray) : twiceB (l ++ [x]) = (twiceB l || memB x l) := by
 induction l with
 | nil => simp [twiceB, memB]
 | cons y l ih =>
  rw [List.cons_append, twiceB, ih, twiceB, Bool.eq_iff_iff]
  simp only [Bool.or_eq_true, memB_iff, List.mem_append, List.mem_cons, List.not_mem_nil, or_false]
  constructor
  ·rintro ((h | h) | h | h)
   ·exact .inl (.inl h)
   ·exact .inr (.inl h.symm)
   ·exact .inl (.inr h)
   ·exact .inr (.inr h)
  ·rintro ((h | h) | h | h)
   ·exact .inl (.inl h)
   ·exact .inr (.inl h)
   ·exact .inl (.inr h.symm)
   ·exact .inr (.inr h)
theorem twice_more (l r : List ByteArray) (h : twiceB l = true) : twiceB (l ++ r) = true := by
 induction l with
 | nil => cases h
 | cons y l ih =>
  rw [twiceB, Bool.or_eq_true] at h
  rw [List.cons_append, twiceB, Bool.or_eq_true]
  rcases h with h | h
  ·exact .inl (memB_iff.2 (List.mem_append_left _ (memB_iff.1 h)))
  ·exact .inr (ih h)
end Go.Proofs.YtlppdgaogdpajaaGreatDoor
