/- This text proves that the variables that a row lists hold what the library's contracts ask, and lays a world that holds the list. -/
import Derived.Test.YthdenmbfeanioaaGreatDoorLibs
import Derived.Test.YthdenmbfeanioaaGreatDoorRows
import Derived.Stop.LaidErr
import Derived.Lib.LaidTab
import Derived.Deep.DeepHandedRow
import Derived.Deep.DeepWitnessRowRef
import Derived.Deep.DeepLaidRun
namespace Go.Proofs.YthdenmbfeanioaaGreatDoor
open Go.RowKit

theorem gty_rng : (Tryz.prog.globals[1]?).map (·.type) = some 95 := by kernel_rfl
theorem gty_syn : (Tryz.prog.globals[0]?).map (·.type) = some 95 := by kernel_rfl
theorem cells_es : Tryz.prog.cellsOf 173 = 1 := by kernel_rfl
theorem cells_str : Tryz.prog.cellsOf 9 = 1 := by kernel_rfl
theorem star_es : "*" ++ "errors.errorString" = "*errors.errorString" := by decide
theorem row_es (u : TypeId) (h : Tryz.prog.typeName? 3 u = some "*errors.errorString") : u = 171 :=
  typeName_ptr_named (nm := "errors.errorString") (by rw [star_es]; kernel_rfl) (by kernel_rfl) (by decide) u (by rw [star_es]; exact h)
theorem gty_tab : (Tryz.prog.globals[2]?).map (·.type) = some 167 := by kernel_rfl
theorem cells_u64 : Tryz.prog.cellsOf 128 = 1 := by kernel_rfl
theorem cells_tab : Tryz.prog.cellsOf 167 = 20 := by kernel_rfl
/-- What the list gives. -/
theorem libW_of {W : World} (h : laidMet Tryz.prog Rows.tallyLinesRow.laid W) (hs : W.ShapedOpen Tryz.prog) : LibW W where
  tab := Lib.tabIs_of_head g_tab gty_tab Tryz.underlying167 Tryz.underlying128 cells_u64 cells_tab h.tail.tail
  len := Tryz.laysM146.s1_3 W hs
  syn := by
    obtain ⟨a, s, hv, _⟩ := laid_sentinel h.tail.tail.tail.tail.tail g_syn gty_syn Tryz.underlying95 row_es Tryz.underlying171 Tryz.underlying173 rfl rfl Tryz.underlying9 cells_es cells_str
    exact ⟨_, _, hv⟩
  rng := by
    obtain ⟨a, s, hv, _⟩ := laid_sentinel h.tail.tail.tail.tail g_rng gty_rng Tryz.underlying95 row_es Tryz.underlying171 Tryz.underlying173 rfl rfl Tryz.underlying9 cells_es cells_str
    exact ⟨_, _, hv⟩

/-! ### A world that holds the list -/
def flat1 : DataW Unit → List Value
  | .lit (.int k n) => [.int k n]
  | _ => []
def flat2 : DataW Unit → List Value
  | .agg l => l.flatMap flat1
  | d => flat1 d
def flat3 : DataW Unit → List Value
  | .agg l => l.flatMap flat2
  | d => flat1 d
def setG (g : Nat) (cs : List Value) (h : Array Obj) : Array Obj := h.modify g fun
  | .cells _ t frozen => .cells cs.toArray t frozen
  | o => o
abbrev sent0 : ByteArray := { data := #[118, 97, 108, 117, 101, 32, 111, 117, 116, 32, 111, 102, 32, 114, 97, 110, 103, 101] }
abbrev sent1 : ByteArray := { data := #[105, 110, 118, 97, 108, 105, 100, 32, 115, 121, 110, 116, 97, 120] }
/-- So many blocks has the settled world. -/
noncomputable def low : Nat := (World.holding Tryz.prog default ⟨#[], #[], []⟩).heap.size
noncomputable def laidWorld (os : Os) : World :=
  let w0 := World.holding Tryz.prog os ⟨#[.cells #[.string sent0] 173, .cells #[.string sent1] 173], #[], []⟩
  { w0 with heap := (setG 4 (flat3 Rows.laid_unicode_utf8_first) (setG 0 [.iface 171 (.pointer (some ⟨low + 1, 0, none⟩))] (setG 1 [.iface 171 (.pointer (some ⟨low + 0, 0, none⟩))] (setG 5 (flat3 Rows.laid_unicode_utf8_acceptRanges) (setG 2 (flat3 Rows.laid_internal_strconv_uint64pow10) (setG 7 (flat3 Rows.laid_math_bits_deBruijn64tab) (setG 6 (flat3 Rows.laid_math_bits_deBruijn32tab) w0.heap))))))) }
theorem laidWorld_met (os : Os) (args : Array Value) : laidMet Tryz.prog Rows.tallyLinesRow.laid ((laidWorld os).forCall (fun _ _ => 0) ⟨#[], args, []⟩).memory :=
  laidMet_of_run3 8 (by kernel_rfl) (by kernel_rfl) (by kernel_rfl)
end Go.Proofs.YthdenmbfeanioaaGreatDoor
