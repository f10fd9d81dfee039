/- This text proves what slices.Sort does to a list of at most two integers. -/
import Derived.Test.YthdenmbfeanioaaGreatDoorInts
import Derived.Test.YthdenmbfeanioaaGreatDoorLoop
import Derived.RegionTactic
import Derived.ChangeAlike
import Derived.Lib.SliceRun
namespace Go.Proofs.YthdenmbfeanioaaGreatDoor
open Go.RowKit Go.Shelf
attribute [local go_sem] Oper.semAt_some

theorem c_less (x y : Int) (w : World) : Calls Tryz.prog 83 #[.int .i64 x, .int .i64 y] w fun e w' => e = .returned (.bool (decide (x < y))) ∧ w' = w := by
  go_enter Tryz.func83, Tryz.ntmps83
  go_wp2
  go_ret
  exact ⟨rfl, rfl⟩

set_option maxRecDepth 100000 in
set_option maxHeartbeats 4000000 in
theorem c_bitsLen (n : Int) (hn : n = 0 ∨ n = 1 ∨ n = 2) (w : World) : Calls Tryz.prog 66 #[.int .u64 n] w fun e w' => (∃ v, e = .returned (.int .i64 v)) ∧ w' = w := by
  rcases hn with rfl | rfl | rfl
  all_goals
    go_enter Tryz.func66, Tryz.ntmps66
    go_wp2
    go_ret
    exact ⟨⟨_, rfl⟩, rfl⟩

theorem c_ins01 (a : Option Addr) (n : Nat) (hn : n = 0 ∨ n = 1) (cap : Nat) (w : World) :
    Calls Tryz.prog 77 #[.slice a n cap, .int .i64 0, .int .i64 n] w fun e w' => e = .returned (.tuple #[]) ∧ w' = w := by
  rcases hn with rfl | rfl
  all_goals
    go_enter Tryz.func77, Tryz.ntmps77
    go_wp2
    go_loopw [6] (fun v6 wr => v6 = .int .i64 1 ∧ wr = w) (fun _ _ => 0)
    case atStart => exact ⟨rfl, rfl⟩
    case round =>
      obtain ⟨rfl, rfl⟩ := hrel
      go_wp2
      go_end0
      exact ⟨rfl, rfl⟩

theorem c_ins2 (b cap : Nat) (x y : Int) (w : World) (hx : w.cell? ⟨b, 0, none⟩ = some (.int .i64 x)) (hy : w.cell? ⟨b, 1, none⟩ = some (.int .i64 y)) (fx : w.frozen? ⟨b, 0, none⟩ = false) (fy : w.frozen? ⟨b, 1, none⟩ = false) :
    Calls Tryz.prog 77 #[.slice (some ⟨b, 0, none⟩) 2 cap, .int .i64 0, .int .i64 2] w fun e w' => e = .returned (.tuple #[]) ∧
      w'.cell? ⟨b, 0, none⟩ = some (.int .i64 (min x y)) ∧ w'.cell? ⟨b, 1, none⟩ = some (.int .i64 (max x y)) ∧ w'.frozen? ⟨b, 0, none⟩ = false ∧ w'.frozen? ⟨b, 1, none⟩ = false ∧ Kept (fun k => k = b) w w' := by
  go_enter Tryz.func77, Tryz.ntmps77
  go_wp2
  go_loopw [6] (fun v6 wr => (v6 = .int .i64 1 ∧ wr = w) ∨ (v6 = .int .i64 2 ∧ wr.cell? ⟨b, 0, none⟩ = some (.int .i64 (min x y)) ∧ wr.cell? ⟨b, 1, none⟩ = some (.int .i64 (max x y)) ∧ wr.frozen? ⟨b, 0, none⟩ = false ∧ wr.frozen? ⟨b, 1, none⟩ = false ∧ Kept (fun k => k = b) w wr)) (fun v6 _ => 2 - (intOf v6).toNat)
  case atStart => exact .inl ⟨rfl, rfl⟩
  case round =>
    rcases hrel with ⟨rfl, hww⟩ | ⟨rfl, h1, h2, h3, h4, h5⟩
    · have hww := hww.symm
      subst hww
      go_wp2
      go_loopw [7] (fun v7 wq => (v7 = .int .i64 1 ∧ Kept (fun _ => False) w wq) ∨ (v7 = .int .i64 0 ∧ y < x ∧ wq.cell? ⟨b, 0, none⟩ = some (.int .i64 y) ∧ wq.cell? ⟨b, 1, none⟩ = some (.int .i64 x) ∧ wq.frozen? ⟨b, 0, none⟩ = false ∧ wq.frozen? ⟨b, 1, none⟩ = false ∧ Kept (fun k => k = b) w wq)) (fun v7 _ => (intOf v7).toNat)
      case atStart => exact .inl ⟨rfl, Kept.refl _ _⟩
      case round =>
        rcases hrel with ⟨rfl, hK⟩ | ⟨rfl, hlt, h1, h2, h3, h4, h5⟩
        · have nf : ¬ (fun _ : Nat => False) b := fun h => h
          have e1 := hK.cell nf hx
          have e2 := hK.cell nf hy
          have e3 := (hK.frozen (cell_lt hx) nf).trans fx
          have e4 := (hK.frozen (cell_lt hy) nf).trans fy
          have HK := Lib.hid hK
          clear hK hx hy fx fy
          have hl := fun W => (c_less y x W).mono (fun e w' h => (⟨h.1, h.2 ▸ Below.refl _ _⟩ : e = .returned (.bool (decide (y < x))) ∧ Below W.heap.size W w'))
          by_cases hlt : y < x
          · rw [decide_eq_true hlt] at hl
            have HL := Lib.hid hl
            have HLT := Lib.hid hlt
            clear hl hlt
            go_wp2_with fail
            have k1 := later_cell e1
            have k2 := later_cell e2
            refine wp_region_later wr (by kernel_rfl) (by kernel_rfl) (Below.refl _ _) ?_
            repeat (go_big_quiet_step (first | (go_at_call 83; with_reducible exact in_region (HL.out _))))
            refine wpQuiet_nil ?_
            rintro ⟨W2, hB⟩
            dsimp only
            clear k1 k2
            have hc := (bcell hB).1
            have hf := (bcell hB).2
            have g1 := (hc _ _ (cell_lt e1)).trans e1
            have g2 := (hc _ _ (cell_lt e2)).trans e2
            have g3 := (hf _ _ (cell_lt e1)).trans e3
            have g4 := (hf _ _ (cell_lt e2)).trans e4
            have HB := Lib.hid hB
            clear hB hc hf e1 e2 e3 e4
            go_wp2
            go_region
            go_wp2
            refine ⟨.inr ⟨rfl, HLT.out, by go_simp, by go_simp, by go_simp, by go_simp, ?_⟩, by decide⟩
            have hk2 := (HK.out.trans (Kept.of_below (O := fun _ => False) HB.out) (fun _ _ h => h)).wider (O' := fun k => k = b) fun _ _ h => h.elim
            exact (Kept.setCell (p := { block := b, off := 0 }) (Kept.setCell (p := { block := b, off := 1 }) hk2 (.inl rfl) _) (.inl rfl) _).drew
          · rw [decide_eq_false hlt] at hl
            have HL := Lib.hid hl
            have HLT := Lib.hid hlt
            clear hl hlt
            go_wp2_with fail
            have k1 := later_cell e1
            have k2 := later_cell e2
            refine wp_region_later wr (by kernel_rfl) (by kernel_rfl) (Below.refl _ _) ?_
            repeat (go_big_quiet_step (first | (go_at_call 83; with_reducible exact in_region (HL.out _))))
            refine wpQuiet_nil ?_
            rintro ⟨W2, hB⟩
            dsimp only
            clear k1 k2
            have hc := (bcell hB).1
            have hf := (bcell hB).2
            have g1 := (hc _ _ (cell_lt e1)).trans e1
            have g2 := (hc _ _ (cell_lt e2)).trans e2
            have g3 := (hf _ _ (cell_lt e1)).trans e3
            have g4 := (hf _ _ (cell_lt e2)).trans e4
            have HB := Lib.hid hB
            clear hB hc hf e1 e2 e3 e4
            go_wp2
            have hlt := HLT.out
            refine ⟨.inr ⟨rfl, by rw [g1]; congr 2; omega, by rw [g2]; congr 2; omega, g3, g4, (HK.out.trans (Kept.of_below HB.out) (fun _ _ h => h)).wider fun _ _ h => h.elim⟩, by decide⟩
        · have H5 := Lib.hid h5
          have HLT := Lib.hid hlt
          clear h5 hlt hx hy fx fy
          go_wp2_with fail
          refine wp_region_later wr (by kernel_rfl) (by kernel_rfl) (Below.refl _ _) ?_
          repeat (go_big_quiet_step (fail))
          refine wpQuiet_nil ?_
          rintro ⟨W2, hB⟩
          dsimp only
          have hc := (bcell hB).1
          have hf := (bcell hB).2
          have g1 := (hc _ _ (cell_lt h1)).trans h1
          have g2 := (hc _ _ (cell_lt h2)).trans h2
          have g3 := (hf _ _ (cell_lt h1)).trans h3
          have g4 := (hf _ _ (cell_lt h2)).trans h4
          have HB := Lib.hid hB
          clear hB hc hf h1 h2 h3 h4
          go_wp2
          have hlt := HLT.out
          refine ⟨.inr ⟨rfl, by rw [g1]; congr 2; omega, by rw [g2]; congr 2; omega, g3, g4, H5.out.trans (Kept.of_below HB.out) (fun _ _ h => h)⟩, by decide⟩
    · have H5 := Lib.hid h5
      clear h5
      go_wp2
      go_end0
      exact ⟨rfl, h1, h2, h3, h4, H5⟩
theorem c_pdq01 (a : Option Addr) (n : Nat) (hn : n = 0 ∨ n = 1) (cap : Nat) (v : Int) (w : World) :
    Calls Tryz.prog 65 #[.slice a n cap, .int .i64 0, .int .i64 n, .int .i64 v] w fun e w' => e = .returned (.tuple #[]) ∧ w' = w := by
  have h := fun W => c_ins01 a n hn cap W
  have hn' : (n : Int) ≤ 12 := by omega
  have H := Lib.hid h
  clear h hn
  go_enter Tryz.func65, Tryz.ntmps65
  go_wp2
  go_loopw [1, 2] (fun v1 v2 wr => v1 = .int .i64 0 ∧ v2 = .int .i64 n ∧ wr = w) (fun _ _ _ => 0)
  case atStart => exact ⟨rfl, rfl, rfl⟩
  case round =>
    obtain ⟨rfl, rfl, rfl⟩ := hrel
    go_wp2_with (go_at_call 77; refine (H.out _).mono ?_; rintro e W2 ⟨rfl, rfl⟩)
    refine bodyPost_ret (results_none rfl _ _ _) rfl ?_
    exact ⟨rfl, rfl⟩

/-- What a sort of two integers does to their block. -/
structure Two (b : Nat) (x y : Int) (w : World) : Prop where
  c0 : w.cell? ⟨b, 0, none⟩ = some (.int .i64 x)
  c1 : w.cell? ⟨b, 1, none⟩ = some (.int .i64 y)
  f0 : w.frozen? ⟨b, 0, none⟩ = false
  f1 : w.frozen? ⟨b, 1, none⟩ = false

theorem c_pdq2 (b cap : Nat) (x y v : Int) (w : World) (h : Two b x y w) :
    Calls Tryz.prog 65 #[.slice (some ⟨b, 0, none⟩) 2 cap, .int .i64 0, .int .i64 2, .int .i64 v] w fun e w' => e = .returned (.tuple #[]) ∧ Two b (min x y) (max x y) w' ∧ Kept (fun k => k = b) w w' := by
  have h := c_ins2 b cap x y w h.c0 h.c1 h.f0 h.f1
  have H := Lib.hid h
  clear h
  go_enter Tryz.func65, Tryz.ntmps65
  go_wp2
  go_loopw [1, 2] (fun v1 v2 wr => v1 = .int .i64 0 ∧ v2 = .int .i64 2 ∧ w = wr) (fun _ _ _ => 0)
  case atStart => exact ⟨rfl, rfl, rfl⟩
  case round =>
    obtain ⟨rfl, rfl, rfl⟩ := hrel
    go_wp2_with (go_at_call 77; refine (H.out).mono ?_; rintro e W2 ⟨rfl, h1, h2, h3, h4, h5⟩; have HK := Lib.hid h5; clear h5)
    refine bodyPost_ret (results_none rfl _ _ _) rfl ?_
    exact ⟨rfl, ⟨h1, h2, h3, h4⟩, HK⟩

theorem c_sort01 (a : Option Addr) (n : Nat) (hn : n = 0 ∨ n = 1) (cap : Nat) (w : World) :
    Calls Tryz.prog 47 #[.slice a n cap] w fun e w' => e = .returned (.tuple #[]) ∧ w' = w := by
  have h := fun v W => c_pdq01 a n hn cap v W
  have hb := fun W => c_bitsLen n (by omega) W
  have hn' : n ≤ 2 := by omega
  have H := Lib.hid h
  have HB := Lib.hid hb
  clear h hb hn
  go_enter Tryz.func47, Tryz.ntmps47
  go_wp2_with fail
  refine (HB.out _).mono ?_
  rintro e W2 ⟨⟨v, rfl⟩, rfl⟩
  go_wp2_with fail
  refine (H.out _ _).mono ?_
  rintro e W3 ⟨rfl, rfl⟩
  go_wp2
  go_end0
  exact ⟨rfl, rfl⟩

theorem c_sort2 (b cap : Nat) (x y : Int) (w : World) (h : Two b x y w) :
    Calls Tryz.prog 47 #[.slice (some ⟨b, 0, none⟩) 2 cap] w fun e w' => e = .returned (.tuple #[]) ∧ Two b (min x y) (max x y) w' ∧ Kept (fun k => k = b) w w' := by
  have h := fun v => c_pdq2 b cap x y v w h
  have hb := fun W => c_bitsLen 2 (by omega) W
  have H := Lib.hid h
  have HB := Lib.hid hb
  clear h hb
  go_enter Tryz.func47, Tryz.ntmps47
  go_wp2_with fail
  refine (HB.out _).mono ?_
  rintro e W2 ⟨⟨v, rfl⟩, rfl⟩
  go_wp2_with fail
  refine (H.out _).mono ?_
  rintro e W3 ⟨rfl, h2, h3⟩
  have H2 := Lib.hid h2
  have H3 := Lib.hid h3
  clear h2 h3
  go_wp2
  go_end0
  exact ⟨rfl, H2, H3⟩

/-- Compact at a list with fewer than two elements, and at two that differ or not. -/
theorem c_compact01 (a : Option Addr) (n : Nat) (hn : n < 2) (cap : Nat) (w : World) :
    Calls Tryz.prog 48 #[.slice a n cap] w fun e w' => e = .returned (.slice a n cap) ∧ w' = w := by
  have hn' : (n : Int) < 2 := by omega
  go_enter Tryz.func48, Tryz.ntmps48
  go_wp2
  go_ret
  exact ⟨rfl, rfl⟩

theorem c_compact2 (b cap : Nat) (x y : Int) (w : World) (h : Two b x y w) (hxy : ¬ x = y) :
    Calls Tryz.prog 48 #[.slice (some ⟨b, 0, none⟩) 2 cap] w fun e w' => e = .returned (.slice (some ⟨b, 0, none⟩) 2 cap) ∧ Below w.heap.size w w' := by
  obtain ⟨h1, h2, h3, h4⟩ := h
  have hd : (y == x) = false := by simp; omega
  clear h3 h4
  go_enter Tryz.func48, Tryz.ntmps48
  go_wp2
  go_loopw [3] (fun v3 wr => (v3 = .int .i64 1 ∧ w = wr) ∨ (v3 = .int .i64 2 ∧ Below w.heap.size w wr)) (fun v3 _ => 2 - (intOf v3).toNat)
  case atStart => exact .inl ⟨rfl, rfl⟩
  case round =>
    rcases hrel with ⟨rfl, rfl⟩ | ⟨rfl, hb⟩
    · go_wp2_with fail
      have k1 := later_cell h1
      have k2 := later_cell h2
      clear h1 h2
      refine wp_region_later w (by kernel_rfl) (by kernel_rfl) (Below.refl _ _) ?_
      repeat (go_big_quiet_step (fail))
      refine wpQuiet_nil ?_
      rintro ⟨W2, hB⟩
      dsimp only
      clear k1 k2
      have HB := Lib.hid hB
      clear hB
      go_wp2
      exact ⟨.inr ⟨rfl, HB⟩, by decide⟩
    · clear h1 h2
      go_wp2
      go_ret
      exact ⟨rfl, hb⟩
theorem c_compact1 (b cap : Nat) (x : Int) (w : World) (h : Two b x x w) (hcap : 2 ≤ cap) (_hcap2 : cap ≤ maxLen) :
    Calls Tryz.prog 48 #[.slice (some ⟨b, 0, none⟩) 2 cap] w fun e w' => e = .returned (.slice (some ⟨b, 0, none⟩) 1 cap) ∧ w'.cell? ⟨b, 0, none⟩ = some (.int .i64 x) ∧ w'.frozen? ⟨b, 0, none⟩ = false ∧ Kept (fun k => k = b) w w' := by
  obtain ⟨h1, h2, h3, h4⟩ := h
  go_enter Tryz.func48, Tryz.ntmps48
  go_wp2
  go_loopw [3] (fun v3 wr => v3 = .int .i64 1 ∧ w = wr) (fun v3 _ => 2 - (intOf v3).toNat)
  case atStart => exact ⟨rfl, rfl⟩
  case round =>
    obtain ⟨rfl, rfl⟩ := hrel
    go_wp2_with fail
    have k1 := later_cell h1
    have k2 := later_cell h2
    refine wp_region_later w (by kernel_rfl) (by kernel_rfl) (Below.refl _ _) ?_
    repeat (go_big_quiet_step (fail))
    refine wpQuiet_nil ?_
    rintro ⟨W2, hB⟩
    dsimp only
    clear k1 k2
    have hc := (bcell hB).1
    have hf := (bcell hB).2
    have g1 := (hc _ _ (cell_lt h1)).trans h1
    have g2 := (hc _ _ (cell_lt h2)).trans h2
    have g3 := (hf _ _ (cell_lt h1)).trans h3
    have g4 := (hf _ _ (cell_lt h2)).trans h4
    have HB := Lib.hid hB
    clear hB hc hf h1 h2 h3 h4
    have zero3 : ∀ w, (zeroValue 3).run Tryz.prog w = .ok (.int .i64 0) w := fun w => by go_simp
    have hcl : ∀ ty, (Builtin.clear_ #[52] ty #[.slice (some ⟨b, 1, none⟩) 1 (cap - 1)]).run Tryz.prog W2 = .ok (.tuple #[]) (W2.setCells b 1 [.int .i64 0]) :=
      fun ty => Lib.run_clear_slice W2 52 3 ty (.int .i64 0) Tryz.underlying52 zero3 rfl rfl b 1 1 (cap - 1) (by omega) (fun j hj => by (have e : j = 0 := by omega); subst e; rw [g2]; rfl) (fun j hj => by (have e : j = 0 := by omega); subst e; exact g4)
    go_wp2
    go_loopw [3, 5] (fun v3 v5 wr => v3 = .int .i64 1 ∧ v5 = .int .i64 1 ∧ W2 = wr) (fun _ _ _ => 0)
    case atStart => exact ⟨rfl, rfl, rfl⟩
    case round =>
      obtain ⟨rfl, rfl, rfl⟩ := hrel
      go_wp2_with (simp only [hcl])
      have e : W2.setCells b 1 [.int .i64 0] = W2.setCell ⟨b, 1, none⟩ (.int .i64 0) := by simp [World.setCells]
      rw [e]
      clear hcl e
      go_ret
      have hk := Kept.setCell (p := { block := b, off := 1 }) ((Kept.of_below (O := fun _ => False) HB.out).wider (O' := fun k => k = b) fun _ _ h => h.elim) (.inl rfl) (.int .i64 0)
      exact ⟨rfl, by go_simp, by go_simp, hk⟩
end Go.Proofs.YthdenmbfeanioaaGreatDoor
