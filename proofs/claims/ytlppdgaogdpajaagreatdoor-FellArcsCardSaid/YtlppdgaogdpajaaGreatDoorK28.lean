/- This text is a part of the proof: Tried2, ParsePlain, Parse. -/
import Derived.Test.YtlppdgaogdpajaaGreatDoorK27
set_option maxRecDepth 100000
set_option maxHeartbeats 4000000
namespace Go.Proofs.YtlppdgaogdpajaaGreatDoor
open Go.RowKit Go.Shelf
attribute [local go_sem] Oper.semAt_some
theorem c_tried_ok2 (F : FuncId) (eg : Ent F) (cap : Array Value) (P : World → Prop) (O : Nat → Prop) (w : World)
  (hF : ∀ W, Below w.heap.size w W → w.heap.size < W.heap.size → Calls Tryz.prog F cap W fun e w' => e = .returned (.tuple #[]) ∧ Kept O W w' ∧ P w') (hO : ∀ k, O k → k < w.heap.size)
  (hP : ∀ W W', Kept (fun k => k = w.heap.size) W W' → P W → P W') :
  Calls Tryz.prog 87 #[.func (.func F) #[] cap] w fun e w' => e = .returned (.int .i64 0) ∧ P w' := by
 have hmf : ∀ (fn : Fn) (first cap : Array Value) (w : World), (Instr.makeFunc fn first cap).run Tryz.prog w = .ok (.func fn first cap) w := fun _ _ _ _ => rfl
 have HF := Lib.hid hF
 have HP := Lib.hid hP
 have HO := Lib.hid hO
 clear hF hP hO
 go_enter_defers Tryz.func87, Tryz.ntmps87
 go_upto_region 1 with (fail)
 go_name_world W1 hW1
 have hb : Below w.heap.size w W1 := by subst hW1; go_grown
 have s0 : W1.cell? ⟨w.heap.size, 0, none⟩ = some (.int .i64 0) := by subst hW1; go_simp
 have f0 : W1.frozen? ⟨w.heap.size, 0, none⟩ = false := by subst hW1; go_simp
 have hzl : w.heap.size < W1.heap.size := by subst hW1; simp
 clear hW1
 go_wp2_with fail
 refine (HF.out W1 hb hzl).mono ?_
 rintro e W2 ⟨rfl, hk, hp⟩
 have hno : ¬ O w.heap.size := fun h => Nat.lt_irrefl _ (HO.out _ h)
 have s1 := hk.cell hno s0
 have f1 : W2.frozen? ⟨w.heap.size, 0, none⟩ = false := (hk.frozen (cell_lt s0) hno).trans f0
 have HP2 := Lib.hid hp
 clear hk hp s0 f0 hb hzl
 go_wp2
 refine leaves_cons (f := 161) (args := #[.pointer (some ⟨w.heap.size, 0, none⟩)]) (by simp) (by simp [go_sem]) ?_
 refine (catch_n _ _).mono ?_
 rintro e u' w'' ⟨rfl, rfl, rfl⟩
 have hc : (W2.setCell ⟨w.heap.size, 0, none⟩ (.int .i64 0)).cell? ⟨w.heap.size, 0, none⟩ = some (.int .i64 0) := by go_simp
 refine ⟨.int .i64 0, by simp [results, Tryz.results87, go_sem, hc], rfl, HP.out _ _ ((Kept.refl (fun k => k = w.heap.size) W2).setCell (p := ⟨w.heap.size, 0, none⟩) (.inl rfl) _) HP2.out⟩
theorem c_tried_err2 (F : FuncId) (eg : Ent F) (cap : Array Value) (P : World → Prop) (O : Nat → Prop) (E : Int) (w : World)
  (hF : ∀ W, Below w.heap.size w W → w.heap.size < W.heap.size → Calls Tryz.prog F cap W fun e w' => e = .panicked (givesUp E) ∧ Kept O W w' ∧ P w') (hO : ∀ k, O k → k < w.heap.size)
  (hP : ∀ W W', Kept (fun k => k = w.heap.size) W W' → P W → P W') :
  Calls Tryz.prog 87 #[.func (.func F) #[] cap] w fun e w' => e = .returned (.int .i64 E) ∧ P w' := by
 have hmf : ∀ (fn : Fn) (first cap : Array Value) (w : World), (Instr.makeFunc fn first cap).run Tryz.prog w = .ok (.func fn first cap) w := fun _ _ _ _ => rfl
 have HF := Lib.hid hF
 have HP := Lib.hid hP
 have HO := Lib.hid hO
 clear hF hP hO
 go_enter_defers Tryz.func87, Tryz.ntmps87
 go_upto_region 1 with (fail)
 go_name_world W1 hW1
 have hb : Below w.heap.size w W1 := by subst hW1; go_grown
 have s0 : W1.cell? ⟨w.heap.size, 0, none⟩ = some (.int .i64 0) := by subst hW1; go_simp
 have f0 : W1.frozen? ⟨w.heap.size, 0, none⟩ = false := by subst hW1; go_simp
 have hzl : w.heap.size < W1.heap.size := by subst hW1; simp
 clear hW1
 go_wp2_with fail
 refine (HF.out W1 hb hzl).mono ?_
 rintro e W2 ⟨rfl, hk, hp⟩
 have hno : ¬ O w.heap.size := fun h => Nat.lt_irrefl _ (HO.out _ h)
 have s1 := hk.cell hno s0
 have f1 : W2.frozen? ⟨w.heap.size, 0, none⟩ = false := (hk.frozen (cell_lt s0) hno).trans f0
 have HP2 := Lib.hid hp
 clear hk hp s0 f0 hb hzl
 go_wp2
 refine leaves_cons (f := 161) (args := #[.pointer (some ⟨w.heap.size, 0, none⟩)]) (by simp) (by simp [go_sem]) ?_
 refine (catch_e _ _ _ _ s1 f1).mono ?_
 rintro e u' w'' ⟨rfl, rfl, hc, hk⟩
 have HP3 := Lib.hid (HP.out _ _ hk HP2.out)
 clear hk
 refine ⟨.int .i64 E, by simp [results, Tryz.results87, go_sem, hc], rfl, HP3.out⟩
end Go.Proofs.YtlppdgaogdpajaaGreatDoor
namespace Go.Proofs.YtlppdgaogdpajaaGreatDoor
open Go.RowKit
def skipB (s : ByteArray) : Prop := s = ⟨#[]⟩ ∨ s.data[0]? = some 35
instance (s : ByteArray) : Decidable (skipB s) := inferInstanceAs (Decidable (_ ∨ _))
theorem from_skip {k : Nat} {f : Fe} {b : Bool} {s : ByteArray} {r : List ByteArray} (h : skipB s) : parseFrom k f b (s :: r) = parseFrom (k + 1) f b r := by
 rw [parseFrom]
 exact if_pos h
theorem from_err {k : Nat} {f : Fe} {b : Bool} {s : ByteArray} {r : List ByteArray} (h : ¬ skipB s) (he : (parseLine f b (wordsB s)).2 ≠ 0) : parseFrom k f b (s :: r) = (feZ, (parseLine f b (wordsB s)).2, (k : Int) + 1) := by
 rw [parseFrom]
 rw [if_neg (show ¬ (s = ⟨#[]⟩ ∨ s.data[0]? = some 35) from h), if_pos he]
theorem from_ok2 {k : Nat} {f : Fe} {b : Bool} {s : ByteArray} {r : List ByteArray} (h : ¬ skipB s) (he : (parseLine f b (wordsB s)).2 = 0) : parseFrom k f b (s :: r) = parseFrom (k + 1) (parseLine f b (wordsB s)).1 true r := by
 rw [parseFrom]
 rw [if_neg (show ¬ (s = ⟨#[]⟩ ∨ s.data[0]? = some 35) from h), if_neg (fun h => h he)]
theorem skip_first {s : ByteArray} (h0 : 0 < s.size) : skipB s ↔ (s[0].toNat : Int) = 35 := by
 have e : s.data[0]? = some s[0] := by
  rw [Array.getElem?_eq_getElem (by exact h0)]
  rfl
 unfold skipB
 rw [e]
 constructor
 ·rintro (h | h)
  ·subst h; exact absurd h0 (by decide)
  ·rw [Option.some.inj h]; rfl
 ·intro h
  right
  congr 1
  apply UInt8.toNat_inj.1
  have : (35 : UInt8).toNat = 35 := rfl
  omega
theorem line_len {f : Fe} {b : Bool} {w : List ByteArray} (h : (parseLine f b w).2 = 0) : (parseLine f b w).1.places.length + (parseLine f b w).1.gates.length ≤ f.places.length + f.gates.length + 1 := by
 unfold parseLine at h ⊢
 repeat' split
 all_goals first
  | (simp_all; done)
  | (simp only [List.length_append, List.length_cons, List.length_nil]; omega)
  | (simp; omega)
  | simp
theorem drop_at {α : Type} {l : List α} {k : Nat} {x : α} (h : l[k]? = some x) : l.drop k = x :: l.drop (k + 1) := by
 have hk := (List.getElem?_eq_some_iff.1 h)
 obtain ⟨h1, h2⟩ := hk
 rw [List.drop_eq_getElem_cons h1, h2]
end Go.Proofs.YtlppdgaogdpajaaGreatDoor
namespace Go.Proofs.YtlppdgaogdpajaaGreatDoor
open Go.RowKit Go.Shelf
attribute [local go_sem] Oper.semAt_some
def ParseEnd (R : Fe × Int × Int) (base : Nat) (e : Ending) (w' : World) : Prop :=
 ∃ m : Fm, m.f = R.1 ∧ e = .returned (.tuple #[m.v, .agg #[.int .i64 R.2.1, .int .i64 R.2.2]]) ∧ OwnPl w' base m.pv m.f.places ∧ OwnGt w' base m.gv m.f.gates ∧ ∀ g, m.pv.ownBlock = some g → m.gv.ownBlock ≠ some g
def fmZ : Fm := ⟨feZ, none, 0, none, 0⟩
theorem end_zero (E n : Int) (base : Nat) (w' : World) : ParseEnd (feZ, E, n) base (.returned (.tuple #[.agg #[.int .i64 0, .int .i64 0, .slice none 0 0, .slice none 0 0], .agg #[.int .i64 E, .int .i64 n]])) w' :=
 ⟨fmZ, rfl, rfl, World.ownsRow_nil _ _ _ _, World.ownsRow_nil _ _ _ _, fun g h => by cases h⟩
def RunOk (m : Fm) (f' : Fe) (pb pf base : Nat) (A B : World) : Prop :=
 Kept (fun k => k = pb ∨ m.own pf k) A B ∧ B.cell? ⟨pb, 0, none⟩ = some (.bool true) ∧ B.frozen? ⟨pb, 0, none⟩ = false ∧ ∃ m' : Fm, m'.f = f' ∧ PSt m' pf base B ∧ ∀ k, m'.own pf k → m.own pf k ∨ A.heap.size < k
theorem RunOk.kept {m : Fm} {f' : Fe} {pb pf base : Nat} {A B C : World} (h : RunOk m f' pb pf base A B) (hk : Kept (fun k => k = A.heap.size) B C) (hb : pb < A.heap.size) (hm : ∀ k, m.own pf k → k < A.heap.size) : RunOk m f' pb pf base A C := by
 obtain ⟨h1, h2, h3, m', h4, h5, h6⟩ := h
 have hn : ¬ pb = A.heap.size := by omega
 refine ⟨h1.trans hk (fun j hj e => by omega), hk.cell hn h2, (hk.frozen (cell_lt h2) hn).trans h3, m', h4, h5.kept hk (fun k hk2 e => ?_), h6⟩
 rcases h6 k hk2 with h7 | h7
 ·have := hm k h7; omega
 ·omega
theorem RunOk.own {m : Fm} {f' : Fe} {pb pf base : Nat} {A B W5 : World} (h : RunOk m f' pb pf base A B) (hK : Kept (fun k => k = pf ∨ k = pb) W5 A) (hbase : base = W5.heap.size) (hP : PSt m pf base A) : Kept (fun k => k = pf ∨ k = pb) W5 B := by
 refine hK.trans h.1 fun j hj e => ?_
 rcases e with e | e | e | e
 ·exact .inr e
 ·exact .inl e
 ·have := (hP.pl.lt j e).1; omega
 ·have := (hP.gt.lt j e).1; omega
theorem c_Parse_long (src : ByteArray) (w : World) (hs : 20000 < src.size) :
  Calls Tryz.prog 21 #[.string src] w fun e w' => ParseEnd (parseV src) w.heap.size e w' ∧ Below w.heap.size w w' := by
 rw [show parseV src = (feZ, 2, 0) from if_pos hs]
 go_enter Tryz.func21, Tryz.ntmps21
 go_wp2
 refine bodyPost_ret (v := .tuple #[.agg #[.int .i64 0, .int .i64 0, .slice none 0 0, .slice none 0 0], .agg #[.int .i64 2, .int .i64 0]]) (by simp [results, Tryz.results21, go_sem]) rfl ⟨end_zero _ _ _ _, by go_grown⟩
theorem c_Parse_main (src : ByteArray) (w : World) (hl : LibW w) (hs : ¬ 20000 < src.size) :
    Calls Tryz.prog 21 #[.string src] w fun e w' => ParseEnd (parseV src) w.heap.size e w' ∧ Below w.heap.size w w' := by
  obtain ⟨Ls, hLs⟩ : ∃ Ls, piecesC 10 src = Ls := ⟨_, rfl⟩
  have hlen : Ls.length ≤ 20001 := by have := pieces_len 10 src; rw [hLs] at this; omega
  have heach : ∀ p ∈ Ls, p.size ≤ 20000 := fun p hp => by have := pieces_each 10 src p (by rw [hLs]; exact hp); omega
  obtain ⟨R, hR⟩ : ∃ R, parseFrom 0 feZ false Ls = R := ⟨_, rfl⟩
  have hV : parseV src = if R.2.1 ≠ 0 then R else if checkE R.1 ≠ 0 then (feZ, checkE R.1, 0) else R := by
    unfold parseV
    rw [if_neg hs, hLs, hR]
  have hSp := fun W (hb : Below w.heap.size w W) => c_Split 10 src W (hl.later hb) (by omega)
  rw [hLs] at hSp
  have hgt : ∀ {W W' : World}, Strs W' (some ⟨W.heap.size, 0, none⟩) Ls → W.heap.size < W'.heap.size := fun h => by
    have := strs_cell h (show 0 < Ls.length by rw [← hLs, pieces_count]; omega)
    exact cell_lt this
  have HSp := Lib.hid hSp
  have HV := Lib.hid hV
  have HL := Lib.hid hl
  have HE := Lib.hid heach
  have HR := Lib.hid hR
  have e2 : decide ((src.size : Int) > 20000) = false := decide_eq_false (by omega)
  clear hSp hV hl hs heach hR hLs
  go_enter Tryz.func21, Tryz.ntmps21
  go_upto_region 5 with (fail)
  go_name_world W1 hW1
  have hb0 : Below w.heap.size w W1 := by subst hW1; go_grown
  have hz1 : W1.heap.size = w.heap.size + 4 := by subst hW1; simp
  have y0 : W1.cell? ⟨w.heap.size, 0, none⟩ = some (.int .i64 0) := by subst hW1; go_simp
  have fy0 : W1.frozen? ⟨w.heap.size, 0, none⟩ = false := by subst hW1; go_simp
  have y1 : W1.cell? ⟨w.heap.size, 1, none⟩ = some (.int .i64 0) := by subst hW1; go_simp
  have fy1 : W1.frozen? ⟨w.heap.size, 1, none⟩ = false := by subst hW1; go_simp
  have y2 : W1.cell? ⟨w.heap.size, 2, none⟩ = some (.slice none 0 0) := by subst hW1; go_simp
  have fy2 : W1.frozen? ⟨w.heap.size, 2, none⟩ = false := by subst hW1; go_simp
  have y3 : W1.cell? ⟨w.heap.size, 3, none⟩ = some (.slice none 0 0) := by subst hW1; go_simp
  have fy3 : W1.frozen? ⟨w.heap.size, 3, none⟩ = false := by subst hW1; go_simp
  have t0 : W1.cell? ⟨w.heap.size + 1, 0, none⟩ = some (.int .i64 0) := by subst hW1; go_simp
  have ft0 : W1.frozen? ⟨w.heap.size + 1, 0, none⟩ = false := by subst hW1; go_simp
  have t1 : W1.cell? ⟨w.heap.size + 1, 1, none⟩ = some (.int .i64 0) := by subst hW1; go_simp
  have ft1 : W1.frozen? ⟨w.heap.size + 1, 1, none⟩ = false := by subst hW1; go_simp
  have q0 : W1.cell? ⟨w.heap.size + 1 + 1, 0, none⟩ = some (.int .i64 0) := by subst hW1; go_simp
  have fq0 : W1.frozen? ⟨w.heap.size + 1 + 1, 0, none⟩ = false := by subst hW1; go_simp
  have q1 : W1.cell? ⟨w.heap.size + 1 + 1, 1, none⟩ = some (.int .i64 0) := by subst hW1; go_simp
  have fq1 : W1.frozen? ⟨w.heap.size + 1 + 1, 1, none⟩ = false := by subst hW1; go_simp
  have q2 : W1.cell? ⟨w.heap.size + 1 + 1, 2, none⟩ = some (.slice none 0 0) := by subst hW1; go_simp
  have fq2 : W1.frozen? ⟨w.heap.size + 1 + 1, 2, none⟩ = false := by subst hW1; go_simp
  have q3 : W1.cell? ⟨w.heap.size + 1 + 1, 3, none⟩ = some (.slice none 0 0) := by subst hW1; go_simp
  have fq3 : W1.frozen? ⟨w.heap.size + 1 + 1, 3, none⟩ = false := by subst hW1; go_simp
  have c0 : W1.cell? ⟨w.heap.size + 1 + 1 + 1, 0, none⟩ = some (.bool false) := by subst hW1; go_simp
  have fc0 : W1.frozen? ⟨w.heap.size + 1 + 1 + 1, 0, none⟩ = false := by subst hW1; go_simp
  clear hW1
  obtain ⟨pb, hpb⟩ : ∃ p, w.heap.size + 1 + 1 + 1 = p := ⟨_, rfl⟩
  rw [hpb] at c0 fc0 ⊢
  obtain ⟨pf, hpf⟩ : ∃ p, w.heap.size + 1 + 1 = p := ⟨_, rfl⟩
  rw [hpf] at q0 q1 q2 q3 fq0 fq1 fq2 fq3 ⊢
  have zz1 : w.heap.size + 1 < pf := by omega
  have zz2 : pf < pb := by omega
  have zz3 : pb < W1.heap.size := by omega
  clear hpf hpb
  go_wp2_with fail
  refine (HSp.out _ hb0).mono ?_
  rintro e W5 ⟨rfl, hst, hB⟩
  have hzl : W1.heap.size < W5.heap.size := hgt hst
  have fy0n := later_off hB y0 fy0
  have y0n := later_of hB y0
  clear y0 fy0
  have y0 := y0n
  have fy0 := fy0n
  clear y0n fy0n
  have fy1n := later_off hB y1 fy1
  have y1n := later_of hB y1
  clear y1 fy1
  have y1 := y1n
  have fy1 := fy1n
  clear y1n fy1n
  have fy2n := later_off hB y2 fy2
  have y2n := later_of hB y2
  clear y2 fy2
  have y2 := y2n
  have fy2 := fy2n
  clear y2n fy2n
  have fy3n := later_off hB y3 fy3
  have y3n := later_of hB y3
  clear y3 fy3
  have y3 := y3n
  have fy3 := fy3n
  clear y3n fy3n
  have ft0n := later_off hB t0 ft0
  have t0n := later_of hB t0
  clear t0 ft0
  have t0 := t0n
  have ft0 := ft0n
  clear t0n ft0n
  have ft1n := later_off hB t1 ft1
  have t1n := later_of hB t1
  clear t1 ft1
  have t1 := t1n
  have ft1 := ft1n
  clear t1n ft1n
  have fq0n := later_off hB q0 fq0
  have q0n := later_of hB q0
  clear q0 fq0
  have q0 := q0n
  have fq0 := fq0n
  clear q0n fq0n
  have fq1n := later_off hB q1 fq1
  have q1n := later_of hB q1
  clear q1 fq1
  have q1 := q1n
  have fq1 := fq1n
  clear q1n fq1n
  have fq2n := later_off hB q2 fq2
  have q2n := later_of hB q2
  clear q2 fq2
  have q2 := q2n
  have fq2 := fq2n
  clear q2n fq2n
  have fq3n := later_off hB q3 fq3
  have q3n := later_of hB q3
  clear q3 fq3
  have q3 := q3n
  have fq3 := fq3n
  clear q3n fq3n
  have fc0n := later_off hB c0 fc0
  have c0n := later_of hB c0
  clear c0 fc0
  have c0 := c0n
  have fc0 := fc0n
  clear c0n fc0n
  have hb5 := bthen hb0 hB
  clear hgt
  obtain ⟨bs, hbs⟩ : ∃ p, W1.heap.size = p := ⟨_, rfl⟩
  have zz4 : bs < W5.heap.size := by rw [← hbs]; exact hzl
  rw [hbs] at hst zz3 ⊢
  have HPS : Hid (PSt fmZ pf W5.heap.size W5) := Lib.hid ⟨q0, q1, q2, q3, fq0, fq1, fq2, fq3, World.ownsRow_nil _ _ _ _, World.ownsRow_nil _ _ _ _, fun g h => (by cases h), by omega⟩
  have HST := Lib.hid hst
  have HB5 := Lib.hid hb5
  have Hc0 := Lib.hid c0
  have Hfc0 := Lib.hid fc0
  clear hB hb0 hst hbs hb5 hzl q0 q1 q2 q3 fq0 fq1 fq2 fq3 HSp c0 fc0 hz1
  obtain ⟨N, hN⟩ : ∃ n, Ls.length = n := ⟨_, rfl⟩
  rw [hN] at hlen ⊢
  have HN := Lib.hid hN
  clear hN
  go_wp2
  go_loopw [18] (fun v18 wr => ∃ (k : Nat) (m : Fm) (b : Bool), k ≤ N ∧ v18 = .int .i64 k ∧ parseFrom k m.f b (Ls.drop k) = R ∧ PSt m pf W5.heap.size wr ∧ wr.cell? ⟨pb, 0, none⟩ = some (.bool b) ∧ wr.frozen? ⟨pb, 0, none⟩ = false ∧ m.f.places.length + m.f.gates.length ≤ k ∧ Kept (fun k => k = pf ∨ k = pb) W5 wr) (fun v18 _ => N - (intOf v18).toNat)
  case atStart => exact ⟨0, fmZ, false, by omega, rfl, by rw [List.drop_zero]; exact HR.out, HPS.out, Hc0.out, Hfc0.out, Nat.le_refl _, Kept.refl _ _⟩
  case round =>
    clear HPS Hc0 Hfc0 HR
    obtain ⟨k, m, b, hk, rfl, hpf, hst, hcb, hfb, hln, hK⟩ := hrel
    have HK := Lib.hid hK
    have HP := Lib.hid hst
    have zp := cell_lt hst.q0
    have zk := hK.size
    have y0k := hK.cell (show ¬ (w.heap.size = pf ∨ w.heap.size = pb) by omega) y0
    have fy0k := (hK.frozen (cell_lt y0) (show ¬ (w.heap.size = pf ∨ w.heap.size = pb) by omega)).trans fy0
    have y1k := hK.cell (show ¬ (w.heap.size = pf ∨ w.heap.size = pb) by omega) y1
    have fy1k := (hK.frozen (cell_lt y1) (show ¬ (w.heap.size = pf ∨ w.heap.size = pb) by omega)).trans fy1
    have y2k := hK.cell (show ¬ (w.heap.size = pf ∨ w.heap.size = pb) by omega) y2
    have fy2k := (hK.frozen (cell_lt y2) (show ¬ (w.heap.size = pf ∨ w.heap.size = pb) by omega)).trans fy2
    have y3k := hK.cell (show ¬ (w.heap.size = pf ∨ w.heap.size = pb) by omega) y3
    have fy3k := (hK.frozen (cell_lt y3) (show ¬ (w.heap.size = pf ∨ w.heap.size = pb) by omega)).trans fy3
    have t0k := hK.cell (show ¬ (w.heap.size + 1 = pf ∨ w.heap.size + 1 = pb) by omega) t0
    have ft0k := (hK.frozen (cell_lt t0) (show ¬ (w.heap.size + 1 = pf ∨ w.heap.size + 1 = pb) by omega)).trans ft0
    have t1k := hK.cell (show ¬ (w.heap.size + 1 = pf ∨ w.heap.size + 1 = pb) by omega) t1
    have ft1k := (hK.frozen (cell_lt t1) (show ¬ (w.heap.size + 1 = pf ∨ w.heap.size + 1 = pb) by omega)).trans ft1
    clear hK hst y0 fy0 y1 fy1 y2 fy2 y3 fy3 t0 ft0 t1 ft1
    by_cases hlt : k < N
    · obtain ⟨s, hx⟩ := some_at (l := Ls) (show k < Ls.length by rw [HN.out]; exact hlt)
      have hsz := HE.out s (List.mem_of_getElem? hx)
      have ll : wr.cell? ⟨bs, k, none⟩ = some (.string s) := by
        have h1 := strs_cell HST.out (show k < Ls.length by rw [HN.out]; exact hlt)
        rw [show wd Ls k = s from by unfold wd; rw [hx]; rfl] at h1
        exact HK.out.cell (show ¬ (bs = pf ∨ bs = pb) by omega) h1
      rw [drop_at hx] at hpf
      have HX := Lib.hid hpf
      clear hpf hx
      by_cases he : s = ⟨#[]⟩
      · subst he
        have hsk : skipB ⟨#[]⟩ := .inl rfl
        have HF := Lib.hid ((from_skip hsk).symm.trans HX.out)
        clear HX hsk
        go_wp2
        go_roundw
        case rel => exact ⟨k + 1, m, b, by omega, by go_num, HF.out, HP.out.later (by go_grown), later_of (show Below wr.heap.size wr _ from by go_grown) hcb, later_off (show Below wr.heap.size wr _ from by go_grown) hcb hfb, by omega, kept_then HK.out (by go_grown)⟩
        case measure => simp [intOf]; omega
      · have h0s : 0 < s.size := by
          rcases Nat.eq_zero_or_pos s.size with h | h
          · exact absurd (by rcases s with ⟨⟨l⟩⟩; cases l with
              | nil => rfl
              | cons x r => simp [ByteArray.size] at h) he
          · exact h
        have hne : (s.toList == []) = false := by
          apply beq_eq_false_iff_ne.2
          intro h
          rw [ByteArray.toList_eq] at h
          have : s.data.toList.length = 0 := by rw [h]; rfl
          have h2 : s.size = s.data.toList.length := Array.length_toList.symm
          omega
        clear he
        by_cases hc : (s[0].toNat : Int) = 35
        · have hsk := (skip_first h0s).2 hc
          have hcq : ((s[0].toNat : Int) == 35) = true := beq_iff_eq.2 hc
          clear hc
          have HF := Lib.hid ((from_skip hsk).symm.trans HX.out)
          clear HX hsk
          go_wp2
          go_roundw
          case rel => exact ⟨k + 1, m, b, by omega, by go_num, HF.out, HP.out.later (by go_grown), later_of (show Below wr.heap.size wr _ from by go_grown) hcb, later_off (show Below wr.heap.size wr _ from by go_grown) hcb hfb, by omega, kept_then HK.out (by go_grown)⟩
          case measure => simp [intOf]; omega
        · have hsk : ¬ skipB s := fun h => hc ((skip_first h0s).1 h)
          have hcq : ((s[0].toNat : Int) == 35) = false := beq_eq_false_iff_ne.2 hc
          clear hc
          go_upto_region 9 with (fail)
          go_name_world Wa hWa
          have hBa : Below wr.heap.size wr Wa := by subst hWa; go_grown
          have csa : Wa.cell? ⟨wr.heap.size, 0, none⟩ = some (.string s) := by subst hWa; go_simp
          clear hWa
          have cba := later_of hBa hcb
          have fba := later_off hBa hcb hfb
          have y0a := later_of hBa y0k
          have fy0a := later_off hBa y0k fy0k
          have y1a := later_of hBa y1k
          have fy1a := later_off hBa y1k fy1k
          have y2a := later_of hBa y2k
          have fy2a := later_off hBa y2k fy2k
          have y3a := later_of hBa y3k
          have fy3a := later_off hBa y3k fy3k
          have t0a := later_of hBa t0k
          have ft0a := later_off hBa t0k ft0k
          have t1a := later_of hBa t1k
          have ft1a := later_off hBa t1k ft1k
          have HPA := Lib.hid (HP.out.later hBa)
          have HKA := Lib.hid (kept_then HK.out hBa)
          have zba := cell_lt cba
          have zwa := hBa.size
          have zya := cell_lt y0a
          have zta := cell_lt t0a
          have hin := fun (A : World) (hA : Below Wa.heap.size Wa A) => c_ParseIn m s b wr.heap.size pb pf W5.heap.size A ⟨HPA.out.later hA, later_of hA csa, later_of hA cba, later_off hA cba fba, by omega, by omega, by have := hA.size; omega, HL.out.later (HB5.out.trans ((kept_then HKA.out hA).below HB5.out.size (fun k e => by omega))), by omega, by omega, by omega⟩
          have HIN := Lib.hid hin
          have hown : ∀ k, m.own pf k → k < Wa.heap.size := fun k hk => HPA.out.own_lt hk
          have HOW := Lib.hid hown
          clear hin hown hcb hfb ll y0k fy0k y1k fy1k y2k fy2k y3k fy3k t0k ft0k t1k ft1k hBa
          by_cases h0 : (parseLine m.f b (wordsB s)).2 = 0
          · go_wp2_with fail
            refine (c_tried_ok2 88 (enters_of Tryz.func88 (by kernel_rfl) rfl) _ (RunOk m (parseLine m.f b (wordsB s)).1 pb pf W5.heap.size Wa) (fun k => k = pb ∨ m.own pf k) _ ?hF ?hO ?hP).mono ?_
            case hO => rintro k (rfl | e); exact zba; exact HOW.out k e
            case hP => intro A B hk hp; exact hp.kept hk zba HOW.out
            case hF =>
              intro A hA hzA
              refine (HIN.out A hA).mono ?_
              rintro e B ⟨he, hk, hx⟩
              obtain ⟨h1, h2, m', h3, h4, h5⟩ := hx h0
              exact ⟨by rw [he, h0]; rfl, hk, (Kept.of_below (O := fun k => k = pb ∨ m.own pf k) hA).trans hk (fun _ _ h => h), h1, h2, m', h3, h4, fun k hk => (h5 k hk).imp id (fun h => by omega)⟩
            rintro e W9 ⟨rfl, hp⟩
            have HRO := Lib.hid hp
            have HLN := Lib.hid (line_len h0)
            have HF := Lib.hid ((from_ok2 hsk h0).symm.trans HX.out)
            have HKB := Lib.hid (hp.own HKA.out rfl HPA.out)
            clear hp h0 hsk y0a fy0a y1a fy1a y2a fy2a y3a fy3a t0a ft0a t1a ft1a cba fba csa HIN HX
            go_wp2
            go_roundw
            case rel =>
              obtain ⟨_, h2, h3, m', h4, h5, _⟩ := HRO.out
              exact ⟨k + 1, m', true, by omega, by go_num, by rw [h4]; exact HF.out, h5, h2, h3, by have := HLN.out; rw [h4]; omega, HKB.out⟩
            case measure => simp [intOf]; omega
          · have HE0 := Lib.hid h0
            go_wp2_with fail
            refine (c_tried_err2 88 (enters_of Tryz.func88 (by kernel_rfl) rfl) _ (fun B => Kept (fun k => k = pb ∨ m.own pf k) Wa B) (fun k => k = pb ∨ m.own pf k) (parseLine m.f b (wordsB s)).2 _ ?hF ?hO ?hP).mono ?_
            case hO => rintro k (rfl | e); exact zba; exact HOW.out k e
            case hP => intro A B hk hp; exact hp.trans hk (fun j hj e => by omega)
            case hF =>
              intro A hA hzA
              refine (HIN.out A hA).mono ?_
              rintro e B ⟨he, hk, hx⟩
              exact ⟨he.trans (endV_no HE0.out), hk, (Kept.of_below (O := fun k => k = pb ∨ m.own pf k) hA).trans hk (fun _ _ h => h)⟩
            rintro e W9 ⟨rfl, hp⟩
            have hre : ((parseLine m.f b (wordsB s)).2 == 0) = false := beq_eq_false_iff_ne.2 h0
            have HF := Lib.hid ((from_err hsk h0).symm.trans HX.out)
            have hny : ∀ g, g ≤ w.heap.size + 1 → ¬ (g = pb ∨ m.own pf g) := fun g hg e => by
              rcases e with e | e
              · omega
              · have := HPA.out.own_ge e; omega
            have y0 := hp.cell (hny w.heap.size (by omega)) y0a
            have fy0 := (hp.frozen (cell_lt y0a) (hny w.heap.size (by omega))).trans fy0a
            have y1 := hp.cell (hny w.heap.size (by omega)) y1a
            have fy1 := (hp.frozen (cell_lt y1a) (hny w.heap.size (by omega))).trans fy1a
            have y2 := hp.cell (hny w.heap.size (by omega)) y2a
            have fy2 := (hp.frozen (cell_lt y2a) (hny w.heap.size (by omega))).trans fy2a
            have y3 := hp.cell (hny w.heap.size (by omega)) y3a
            have fy3 := (hp.frozen (cell_lt y3a) (hny w.heap.size (by omega))).trans fy3a
            have t0 := hp.cell (hny (w.heap.size + 1) (by omega)) t0a
            have ft0 := (hp.frozen (cell_lt t0a) (hny (w.heap.size + 1) (by omega))).trans ft0a
            have t1 := hp.cell (hny (w.heap.size + 1) (by omega)) t1a
            have ft1 := (hp.frozen (cell_lt t1a) (hny (w.heap.size + 1) (by omega))).trans ft1a
            have hbe := (HB5.out.trans (HKA.out.below HB5.out.size (fun k e => by omega))).trans (hp.below (n := w.heap.size) (by have := HB5.out.size; omega) (fun k e => by
              rcases e with e | e
              · omega
              · have := HPA.out.own_ge e; omega))
            generalize (parseLine m.f b (wordsB s)).2 = E at *
            clear hp h0 hsk y0a fy0a y1a fy1a y2a fy2a y3a fy3a t0a ft0a t1a ft1a cba fba csa HIN HX hny
            go_wp2
            refine bodyPost_ret (v := .tuple #[.agg #[.int .i64 0, .int .i64 0, .slice none 0 0, .slice none 0 0], .agg #[.int .i64 E, .int .i64 ((k : Int) + 1)]]) (by simp [results, Tryz.results21, go_sem, y0, y1, y2, y3, t0, t1]) rfl ⟨?_, by have hbz := hbe.size; go_grown⟩
            rw [HV.out, ← HF.out, if_pos (show E ≠ 0 from HE0.out)]
            exact end_zero _ _ _ _
    · obtain rfl : k = N := by omega
      have hRe : R = (m.f, 0, 0) := by
        rw [← hpf, List.drop_eq_nil_of_le (by rw [HN.out]; exact Nat.le_refl _)]
        rfl
      have HRE := Lib.hid hRe
      have q0 := HP.out.q0
      have q1 := HP.out.q1
      have q2 := HP.out.q2
      have q3 := HP.out.q3
      have HIN := Lib.hid (HP.out.in (by omega) (by omega))
      have hbk := HB5.out.trans (HK.out.below HB5.out.size (fun k e => by omega))
      clear hRe hpf hcb hfb
      go_wp2_with fail
      refine (c_CheckFell m _ HIN.out).mono ?_
      rintro e W9 ⟨rfl, hB⟩
      have hbe := bthen hbk hB
      have y0 := later_of hB y0k
      have fy0 := later_off hB y0k fy0k
      have y1 := later_of hB y1k
      have fy1 := later_off hB y1k fy1k
      have y2 := later_of hB y2k
      have fy2 := later_off hB y2k fy2k
      have y3 := later_of hB y3k
      have fy3 := later_off hB y3k fy3k
      have t0 := later_of hB t0k
      have ft0 := later_off hB t0k ft0k
      have t1 := later_of hB t1k
      have ft1 := later_off hB t1k ft1k
      have zz := cl4 hB q0 q1 q2 q3
      clear q0 q1 q2 q3
      obtain ⟨q0, q1, q2, q3⟩ := zz
      have HP9 := Lib.hid (HP.out.later hB)
      have z5 := HB5.out.size
      clear hbk hB y0k fy0k y1k fy1k y2k fy2k y3k fy3k t0k ft0k t1k ft1k
      by_cases hE : checkE m.f = 0
      · have HE9 := Lib.hid hE
        rw [hE]
        clear hE
        go_wp2
        refine bodyPost_ret (v := .tuple #[m.v, .agg #[.int .i64 0, .int .i64 0]]) (by simp [results, Tryz.results21, go_sem, y0, y1, y2, y3, t0, t1]) rfl ⟨?_, by have hbz := hbe.size; go_grown⟩
        rw [HV.out, HRE.out, if_neg (fun h => h rfl), if_neg (fun h => h HE9.out)]
        have hks : Kept (fun k => k ≤ w.heap.size + 1) W9 _ := ((((((Kept.refl (fun k => k ≤ w.heap.size + 1) W9).setCell (p := ⟨w.heap.size, 0, none⟩) (.inl (show w.heap.size ≤ w.heap.size + 1 by omega)) (.int .i64 m.f.ticks)).setCell (p := ⟨w.heap.size, 1, none⟩) (.inl (show w.heap.size ≤ w.heap.size + 1 by omega)) (.int .i64 m.f.yields)).setCell (p := ⟨w.heap.size, 2, none⟩) (.inl (show w.heap.size ≤ w.heap.size + 1 by omega)) m.pv).setCell (p := ⟨w.heap.size, 3, none⟩) (.inl (show w.heap.size ≤ w.heap.size + 1 by omega)) m.gv).setCell (p := ⟨w.heap.size + 1, 0, none⟩) (.inl (Nat.le_refl _)) (.int .i64 0)).setCell (p := ⟨w.heap.size + 1, 1, none⟩) (.inl (Nat.le_refl _)) (.int .i64 0)
        exact ⟨m, rfl, rfl, ownsRow_base (ownsRow_kept HP9.out.pl hks (fun k e h => by have := (HP9.out.pl.lt k e).1; omega)) z5, ownsRow_base (ownsRow_kept HP9.out.gt hks (fun k e h => by have := (HP9.out.gt.lt k e).1; omega)) z5, HP9.out.apart⟩
      · have HE9 := Lib.hid hE
        obtain ⟨E, hEE⟩ : ∃ E, checkE m.f = E := ⟨_, rfl⟩
        rw [hEE] at hE ⊢
        have HEE := Lib.hid hEE
        have hre : (E == 0) = false := beq_eq_false_iff_ne.2 hE
        clear hE hEE
        go_wp2
        refine bodyPost_ret (v := .tuple #[.agg #[.int .i64 0, .int .i64 0, .slice none 0 0, .slice none 0 0], .agg #[.int .i64 E, .int .i64 0]]) (by simp [results, Tryz.results21, go_sem, y0, y1, y2, y3, t0, t1]) rfl ⟨?_, by have hbz := hbe.size; go_grown⟩
        rw [HV.out, HRE.out, if_neg (fun h => h rfl), if_pos (show checkE m.f ≠ 0 from HE9.out), HEE.out]
        exact end_zero _ _ _ _
theorem c_ParseFell (src : ByteArray) (w : World) (hl : LibW w) :
  Calls Tryz.prog 21 #[.string src] w fun e w' => ParseEnd (parseV src) w.heap.size e w' ∧ Below w.heap.size w w' := by
 by_cases hs : 20000 < src.size
 ·exact c_Parse_long src w hs
 ·exact c_Parse_main src w hl hs
end Go.Proofs.YtlppdgaogdpajaaGreatDoor
