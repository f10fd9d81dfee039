/-
  No cell of these rows narrows 'for every input' (looked for: loops, veiled, ifaces, maps, wideKeys, modest, calm, conditions, laid).
  DERIVED. THE GIVEN ROWS OF THIS SEAT. 13 by the template 'for every input the law returns true; each argument reads behind the call as it read before'; 0 by the template 'total and deterministic' (their statements: YtokpjaodchcheaaTotals.lean).
  GIVEN WITH THE SEED: the statements are not yours to turn. If you find one false, say at which input.
  Laid BY PROGRAM, IN A SANDBOX (cutbox-rows.mjs): the forced cells as the released guide's own fill.sh prints them over the translation b85ea1713918f051… (all of the seat's roots in one cut). By AI agents, Wed Nov 11 2026. No macro, syntax, notation, axiom, sorry.
-/
import Derived.Test.YtokpjaodchcheaaChecked
import GoSem.Claim
import GoSem.ClaimJoined
import GoSem.ClaimMapViews
import Derived.JoinedTies
import Derived.KernelRfl
namespace Go.Proofs.Ytokpjaodchcheaa
/- THE CELL 'sum', in the pinned program and in every row, IS THE sha256 OF THE DUMP (.gsa) THAT YtokpjaodchcheaaProg.lean LOADS. Nothing in Lean hashes anything: it is a label: what it is worth is what the hold of that sum in a sandbox is worth. -/
noncomputable def Try.pinned : Pinned := { name := "ytokpjaodchcheaa", sum := "b85ea1713918f0513eca2c068caadda179e64baae44a79f0034a598264692e17", checked := Try.checked }
namespace Rows
def none {H : Type} : Left H := { results := [], args := [] }

/-- 'couchantlaw04.TallyAsks': WHATEVER THE INPUT: true; the input reads as it did. -/
def tallyAsksSpec : ChangeSpec := { name := "tallyAsks", fn := fun _ => fun
  | [d1, d2] => { results := [.lit (.bool true)], args := [d1, d2] }
  | _ => none }
def tallyAsksRow : OpenClaim := { program := "ytokpjaodchcheaa", sum := "b85ea1713918f0513eca2c068caadda179e64baae44a79f0034a598264692e17", func := "couchant/couchantlaw04.TallyAsks", spec := "tallyAsks", unfollowed := true, recurses := true, apart := false }
def TallyAsksSaid : Prop := tallyAsksRow.holds Try.pinned (OpenSpec.ofChange tallyAsksSpec)

/-- ITS FALSE NEIGHBOUR: 'it returns false'. Refute it at one input. -/
def tallyAsksWrong : ChangeSpec := { name := "tallyAsks", fn := fun _ => fun
  | [d1, d2] => { results := [.lit (.bool false)], args := [d1, d2] }
  | _ => none }
def TallyAsksWrongFalsely : Prop := tallyAsksRow.holds Try.pinned (OpenSpec.ofChange tallyAsksWrong)

/-- 'couchantlaw04.TallyNarrower': WHATEVER THE INPUT: true; the input reads as it did. -/
def tallyNarrowerSpec : ChangeSpec := { name := "tallyNarrower", fn := fun _ => fun
  | [d1, d2, d3, d4, d5] => { results := [.lit (.bool true)], args := [d1, d2, d3, d4, d5] }
  | _ => none }
def tallyNarrowerRow : OpenClaim := { program := "ytokpjaodchcheaa", sum := "b85ea1713918f0513eca2c068caadda179e64baae44a79f0034a598264692e17", func := "couchant/couchantlaw04.TallyNarrower", spec := "tallyNarrower", unfollowed := true, recurses := true, apart := false }
def TallyNarrowerSaid : Prop := tallyNarrowerRow.holds Try.pinned (OpenSpec.ofChange tallyNarrowerSpec)

/-- ITS FALSE NEIGHBOUR: 'it returns false'. Refute it at one input. -/
def tallyNarrowerWrong : ChangeSpec := { name := "tallyNarrower", fn := fun _ => fun
  | [d1, d2, d3, d4, d5] => { results := [.lit (.bool false)], args := [d1, d2, d3, d4, d5] }
  | _ => none }
def TallyNarrowerWrongFalsely : Prop := tallyNarrowerRow.holds Try.pinned (OpenSpec.ofChange tallyNarrowerWrong)

/-- 'couchantlaw04.TallyLater': WHATEVER THE INPUT: true; the input reads as it did. -/
def tallyLaterSpec : ChangeSpec := { name := "tallyLater", fn := fun _ => fun
  | [d1, d2, d3, d4, d5] => { results := [.lit (.bool true)], args := [d1, d2, d3, d4, d5] }
  | _ => none }
def tallyLaterRow : OpenClaim := { program := "ytokpjaodchcheaa", sum := "b85ea1713918f0513eca2c068caadda179e64baae44a79f0034a598264692e17", func := "couchant/couchantlaw04.TallyLater", spec := "tallyLater", unfollowed := true, recurses := true, apart := false }
def TallyLaterSaid : Prop := tallyLaterRow.holds Try.pinned (OpenSpec.ofChange tallyLaterSpec)

/-- ITS FALSE NEIGHBOUR: 'it returns false'. Refute it at one input. -/
def tallyLaterWrong : ChangeSpec := { name := "tallyLater", fn := fun _ => fun
  | [d1, d2, d3, d4, d5] => { results := [.lit (.bool false)], args := [d1, d2, d3, d4, d5] }
  | _ => none }
def TallyLaterWrongFalsely : Prop := tallyLaterRow.holds Try.pinned (OpenSpec.ofChange tallyLaterWrong)

/-- 'couchantlaw04.TallyExactly': WHATEVER THE INPUT: true; the input reads as it did. -/
def tallyExactlySpec : ChangeSpec := { name := "tallyExactly", fn := fun _ => fun
  | [d1, d2, d3] => { results := [.lit (.bool true)], args := [d1, d2, d3] }
  | _ => none }
def tallyExactlyRow : OpenClaim := { program := "ytokpjaodchcheaa", sum := "b85ea1713918f0513eca2c068caadda179e64baae44a79f0034a598264692e17", func := "couchant/couchantlaw04.TallyExactly", spec := "tallyExactly", unfollowed := true, recurses := true, apart := false }
def TallyExactlySaid : Prop := tallyExactlyRow.holds Try.pinned (OpenSpec.ofChange tallyExactlySpec)

/-- ITS FALSE NEIGHBOUR: 'it returns false'. Refute it at one input. -/
def tallyExactlyWrong : ChangeSpec := { name := "tallyExactly", fn := fun _ => fun
  | [d1, d2, d3] => { results := [.lit (.bool false)], args := [d1, d2, d3] }
  | _ => none }
def TallyExactlyWrongFalsely : Prop := tallyExactlyRow.holds Try.pinned (OpenSpec.ofChange tallyExactlyWrong)

/-- 'couchantlaw04.TallyRecounts': WHATEVER THE INPUT: true; the input reads as it did. -/
def tallyRecountsSpec : ChangeSpec := { name := "tallyRecounts", fn := fun _ => fun
  | [d1, d2] => { results := [.lit (.bool true)], args := [d1, d2] }
  | _ => none }
def tallyRecountsRow : OpenClaim := { program := "ytokpjaodchcheaa", sum := "b85ea1713918f0513eca2c068caadda179e64baae44a79f0034a598264692e17", func := "couchant/couchantlaw04.TallyRecounts", spec := "tallyRecounts", unfollowed := true, recurses := true, apart := false }
def TallyRecountsSaid : Prop := tallyRecountsRow.holds Try.pinned (OpenSpec.ofChange tallyRecountsSpec)

/-- ITS FALSE NEIGHBOUR: 'it returns false'. Refute it at one input. -/
def tallyRecountsWrong : ChangeSpec := { name := "tallyRecounts", fn := fun _ => fun
  | [d1, d2] => { results := [.lit (.bool false)], args := [d1, d2] }
  | _ => none }
def TallyRecountsWrongFalsely : Prop := tallyRecountsRow.holds Try.pinned (OpenSpec.ofChange tallyRecountsWrong)

/-- 'couchantlaw04.TallyWorn': WHATEVER THE INPUT: true; the input reads as it did. -/
def tallyWornSpec : ChangeSpec := { name := "tallyWorn", fn := fun _ => fun
  | [d1, d2, d3] => { results := [.lit (.bool true)], args := [d1, d2, d3] }
  | _ => none }
def tallyWornRow : OpenClaim := { program := "ytokpjaodchcheaa", sum := "b85ea1713918f0513eca2c068caadda179e64baae44a79f0034a598264692e17", func := "couchant/couchantlaw04.TallyWorn", spec := "tallyWorn", unfollowed := true, recurses := true, apart := false }
def TallyWornSaid : Prop := tallyWornRow.holds Try.pinned (OpenSpec.ofChange tallyWornSpec)

/-- ITS FALSE NEIGHBOUR: 'it returns false'. Refute it at one input. -/
def tallyWornWrong : ChangeSpec := { name := "tallyWorn", fn := fun _ => fun
  | [d1, d2, d3] => { results := [.lit (.bool false)], args := [d1, d2, d3] }
  | _ => none }
def TallyWornWrongFalsely : Prop := tallyWornRow.holds Try.pinned (OpenSpec.ofChange tallyWornWrong)

/-- 'couchantlaw04.TallyCounts': WHATEVER THE INPUT: true; the input reads as it did. -/
def tallyCountsSpec : ChangeSpec := { name := "tallyCounts", fn := fun _ => fun
  | [d1, d2, d3, d4] => { results := [.lit (.bool true)], args := [d1, d2, d3, d4] }
  | _ => none }
def tallyCountsRow : OpenClaim := { program := "ytokpjaodchcheaa", sum := "b85ea1713918f0513eca2c068caadda179e64baae44a79f0034a598264692e17", func := "couchant/couchantlaw04.TallyCounts", spec := "tallyCounts", unfollowed := true, recurses := true, apart := false }
def TallyCountsSaid : Prop := tallyCountsRow.holds Try.pinned (OpenSpec.ofChange tallyCountsSpec)

/-- ITS FALSE NEIGHBOUR: 'it returns false'. Refute it at one input. -/
def tallyCountsWrong : ChangeSpec := { name := "tallyCounts", fn := fun _ => fun
  | [d1, d2, d3, d4] => { results := [.lit (.bool false)], args := [d1, d2, d3, d4] }
  | _ => none }
def TallyCountsWrongFalsely : Prop := tallyCountsRow.holds Try.pinned (OpenSpec.ofChange tallyCountsWrong)

/-- 'couchantlaw04.TallyRates': WHATEVER THE INPUT: true; the input reads as it did. -/
def tallyRatesSpec : ChangeSpec := { name := "tallyRates", fn := fun _ => fun
  | [d1, d2, d3, d4, d5] => { results := [.lit (.bool true)], args := [d1, d2, d3, d4, d5] }
  | _ => none }
def tallyRatesRow : OpenClaim := { program := "ytokpjaodchcheaa", sum := "b85ea1713918f0513eca2c068caadda179e64baae44a79f0034a598264692e17", func := "couchant/couchantlaw04.TallyRates", spec := "tallyRates", unfollowed := true, recurses := true, apart := false }
def TallyRatesSaid : Prop := tallyRatesRow.holds Try.pinned (OpenSpec.ofChange tallyRatesSpec)

/-- ITS FALSE NEIGHBOUR: 'it returns false'. Refute it at one input. -/
def tallyRatesWrong : ChangeSpec := { name := "tallyRates", fn := fun _ => fun
  | [d1, d2, d3, d4, d5] => { results := [.lit (.bool false)], args := [d1, d2, d3, d4, d5] }
  | _ => none }
def TallyRatesWrongFalsely : Prop := tallyRatesRow.holds Try.pinned (OpenSpec.ofChange tallyRatesWrong)

/-- 'couchantlaw04.TallyLeast': WHATEVER THE INPUT: true; the input reads as it did. -/
def tallyLeastSpec : ChangeSpec := { name := "tallyLeast", fn := fun _ => fun
  | [d1, d2, d3, d4] => { results := [.lit (.bool true)], args := [d1, d2, d3, d4] }
  | _ => none }
def tallyLeastRow : OpenClaim := { program := "ytokpjaodchcheaa", sum := "b85ea1713918f0513eca2c068caadda179e64baae44a79f0034a598264692e17", func := "couchant/couchantlaw04.TallyLeast", spec := "tallyLeast", unfollowed := true, recurses := true, apart := false }
def TallyLeastSaid : Prop := tallyLeastRow.holds Try.pinned (OpenSpec.ofChange tallyLeastSpec)

/-- ITS FALSE NEIGHBOUR: 'it returns false'. Refute it at one input. -/
def tallyLeastWrong : ChangeSpec := { name := "tallyLeast", fn := fun _ => fun
  | [d1, d2, d3, d4] => { results := [.lit (.bool false)], args := [d1, d2, d3, d4] }
  | _ => none }
def TallyLeastWrongFalsely : Prop := tallyLeastRow.holds Try.pinned (OpenSpec.ofChange tallyLeastWrong)

/-- 'couchantlaw04.TallyPassages': WHATEVER THE INPUT: true; the input reads as it did. -/
def tallyPassagesSpec : ChangeSpec := { name := "tallyPassages", fn := fun _ => fun
  | [d1, d2] => { results := [.lit (.bool true)], args := [d1, d2] }
  | _ => none }
def tallyPassagesRow : OpenClaim := { program := "ytokpjaodchcheaa", sum := "b85ea1713918f0513eca2c068caadda179e64baae44a79f0034a598264692e17", func := "couchant/couchantlaw04.TallyPassages", spec := "tallyPassages", unfollowed := true, recurses := true, apart := false }
def TallyPassagesSaid : Prop := tallyPassagesRow.holds Try.pinned (OpenSpec.ofChange tallyPassagesSpec)

/-- ITS FALSE NEIGHBOUR: 'it returns false'. Refute it at one input. -/
def tallyPassagesWrong : ChangeSpec := { name := "tallyPassages", fn := fun _ => fun
  | [d1, d2] => { results := [.lit (.bool false)], args := [d1, d2] }
  | _ => none }
def TallyPassagesWrongFalsely : Prop := tallyPassagesRow.holds Try.pinned (OpenSpec.ofChange tallyPassagesWrong)

/-- 'couchantlaw04.TallyPassage': WHATEVER THE INPUT: true; the input reads as it did. -/
def tallyPassageSpec : ChangeSpec := { name := "tallyPassage", fn := fun _ => fun
  | [d1, d2, d3] => { results := [.lit (.bool true)], args := [d1, d2, d3] }
  | _ => none }
def tallyPassageRow : OpenClaim := { program := "ytokpjaodchcheaa", sum := "b85ea1713918f0513eca2c068caadda179e64baae44a79f0034a598264692e17", func := "couchant/couchantlaw04.TallyPassage", spec := "tallyPassage", unfollowed := true, recurses := true, apart := false }
def TallyPassageSaid : Prop := tallyPassageRow.holds Try.pinned (OpenSpec.ofChange tallyPassageSpec)

/-- ITS FALSE NEIGHBOUR: 'it returns false'. Refute it at one input. -/
def tallyPassageWrong : ChangeSpec := { name := "tallyPassage", fn := fun _ => fun
  | [d1, d2, d3] => { results := [.lit (.bool false)], args := [d1, d2, d3] }
  | _ => none }
def TallyPassageWrongFalsely : Prop := tallyPassageRow.holds Try.pinned (OpenSpec.ofChange tallyPassageWrong)

/-- 'couchantlaw04.TallyIntervals': WHATEVER THE INPUT: true; the input reads as it did. -/
def tallyIntervalsSpec : ChangeSpec := { name := "tallyIntervals", fn := fun _ => fun
  | [d1, d2, d3] => { results := [.lit (.bool true)], args := [d1, d2, d3] }
  | _ => none }
def tallyIntervalsRow : OpenClaim := { program := "ytokpjaodchcheaa", sum := "b85ea1713918f0513eca2c068caadda179e64baae44a79f0034a598264692e17", func := "couchant/couchantlaw04.TallyIntervals", spec := "tallyIntervals", unfollowed := true, recurses := true, apart := false }
def TallyIntervalsSaid : Prop := tallyIntervalsRow.holds Try.pinned (OpenSpec.ofChange tallyIntervalsSpec)

/-- ITS FALSE NEIGHBOUR: 'it returns false'. Refute it at one input. -/
def tallyIntervalsWrong : ChangeSpec := { name := "tallyIntervals", fn := fun _ => fun
  | [d1, d2, d3] => { results := [.lit (.bool false)], args := [d1, d2, d3] }
  | _ => none }
def TallyIntervalsWrongFalsely : Prop := tallyIntervalsRow.holds Try.pinned (OpenSpec.ofChange tallyIntervalsWrong)

/-- 'couchantlaw04.TallySums': WHATEVER THE INPUT: true; the input reads as it did. -/
def tallySumsSpec : ChangeSpec := { name := "tallySums", fn := fun _ => fun
  | [d1, d2, d3, d4, d5, d6] => { results := [.lit (.bool true)], args := [d1, d2, d3, d4, d5, d6] }
  | _ => none }
def tallySumsRow : OpenClaim := { program := "ytokpjaodchcheaa", sum := "b85ea1713918f0513eca2c068caadda179e64baae44a79f0034a598264692e17", func := "couchant/couchantlaw04.TallySums", spec := "tallySums", unfollowed := true, recurses := true, apart := false }
def TallySumsSaid : Prop := tallySumsRow.holds Try.pinned (OpenSpec.ofChange tallySumsSpec)

/-- ITS FALSE NEIGHBOUR: 'it returns false'. Refute it at one input. -/
def tallySumsWrong : ChangeSpec := { name := "tallySums", fn := fun _ => fun
  | [d1, d2, d3, d4, d5, d6] => { results := [.lit (.bool false)], args := [d1, d2, d3, d4, d5, d6] }
  | _ => none }
def TallySumsWrongFalsely : Prop := tallySumsRow.holds Try.pinned (OpenSpec.ofChange tallySumsWrong)

/- THE SECOND FORM. 'bulk': how many values and letters a reading holds, each counted each time it is reached (what is shared counts as often as it is met; a slice's spare places count too). A statement '..UptoSaid' is the law's where the arguments, and the package variables that the reading takes, are together of bulk at most 1048576: NARROWER than '..Said'. Prove '..Said' where nothing that the law and all that it calls make is longer than what came in: it says more and counts as full. Else prove '..UptoSaid'. A law counts once. -/
mutual
def uptoBulk {H : Type} : DataW H → Nat
  | .lit (.string bytes) => bytes.length + 1
  | .lit _ => 1
  | .nil => 1
  | .ptr d => uptoBulk d + 1
  | .slice elems spare => uptoBulkAll elems + uptoBulkAll spare + 1
  | .agg parts => uptoBulkAll parts + 1
  | .iface _ d => uptoBulk d + 1
  | .map entries => uptoBulkEntries entries + 1
  | .held _ => 1
def uptoBulkAll {H : Type} : List (DataW H) → Nat
  | [] => 0
  | d :: r => uptoBulk d + uptoBulkAll r
def uptoBulkEntries {H : Type} : List (Lit × DataW H) → Nat
  | [] => 0
  | x :: r => uptoBulkEntry x + uptoBulkEntries r
def uptoBulkEntry {H : Type} : Lit × DataW H → Nat
  | (.string bytes, d) => bytes.length + uptoBulk d + 1
  | (_, d) => uptoBulk d + 1
 end
def uptoSmall : (H : Type) → List (DataW H) → Bool := fun _ ds => decide (uptoBulkAll ds ≤ 1048576)
def OpenSpec.upto (s : _root_.Go.ChangeSpec) : _root_.Go.OpenSpec := { _root_.Go.OpenSpec.ofChange s with cond := some uptoSmall }

/-- 'couchantlaw04.TallyAsks', WHERE WHAT IT READS IS OF BULK AT MOST 1048576: true; the input reads as it did. -/
def tallyAsksUptoRow : OpenClaim := { program := "ytokpjaodchcheaa", sum := "b85ea1713918f0513eca2c068caadda179e64baae44a79f0034a598264692e17", func := "couchant/couchantlaw04.TallyAsks", spec := "tallyAsks", unfollowed := true, recurses := true, apart := false, narrowed := true }
def TallyAsksUptoSaid : Prop := tallyAsksUptoRow.holds Try.pinned (OpenSpec.upto tallyAsksSpec)

/-- 'couchantlaw04.TallyNarrower', WHERE WHAT IT READS IS OF BULK AT MOST 1048576: true; the input reads as it did. -/
def tallyNarrowerUptoRow : OpenClaim := { program := "ytokpjaodchcheaa", sum := "b85ea1713918f0513eca2c068caadda179e64baae44a79f0034a598264692e17", func := "couchant/couchantlaw04.TallyNarrower", spec := "tallyNarrower", unfollowed := true, recurses := true, apart := false, narrowed := true }
def TallyNarrowerUptoSaid : Prop := tallyNarrowerUptoRow.holds Try.pinned (OpenSpec.upto tallyNarrowerSpec)

/-- 'couchantlaw04.TallyLater', WHERE WHAT IT READS IS OF BULK AT MOST 1048576: true; the input reads as it did. -/
def tallyLaterUptoRow : OpenClaim := { program := "ytokpjaodchcheaa", sum := "b85ea1713918f0513eca2c068caadda179e64baae44a79f0034a598264692e17", func := "couchant/couchantlaw04.TallyLater", spec := "tallyLater", unfollowed := true, recurses := true, apart := false, narrowed := true }
def TallyLaterUptoSaid : Prop := tallyLaterUptoRow.holds Try.pinned (OpenSpec.upto tallyLaterSpec)

/-- 'couchantlaw04.TallyExactly', WHERE WHAT IT READS IS OF BULK AT MOST 1048576: true; the input reads as it did. -/
def tallyExactlyUptoRow : OpenClaim := { program := "ytokpjaodchcheaa", sum := "b85ea1713918f0513eca2c068caadda179e64baae44a79f0034a598264692e17", func := "couchant/couchantlaw04.TallyExactly", spec := "tallyExactly", unfollowed := true, recurses := true, apart := false, narrowed := true }
def TallyExactlyUptoSaid : Prop := tallyExactlyUptoRow.holds Try.pinned (OpenSpec.upto tallyExactlySpec)

/-- 'couchantlaw04.TallyRecounts', WHERE WHAT IT READS IS OF BULK AT MOST 1048576: true; the input reads as it did. -/
def tallyRecountsUptoRow : OpenClaim := { program := "ytokpjaodchcheaa", sum := "b85ea1713918f0513eca2c068caadda179e64baae44a79f0034a598264692e17", func := "couchant/couchantlaw04.TallyRecounts", spec := "tallyRecounts", unfollowed := true, recurses := true, apart := false, narrowed := true }
def TallyRecountsUptoSaid : Prop := tallyRecountsUptoRow.holds Try.pinned (OpenSpec.upto tallyRecountsSpec)

/-- 'couchantlaw04.TallyWorn', WHERE WHAT IT READS IS OF BULK AT MOST 1048576: true; the input reads as it did. -/
def tallyWornUptoRow : OpenClaim := { program := "ytokpjaodchcheaa", sum := "b85ea1713918f0513eca2c068caadda179e64baae44a79f0034a598264692e17", func := "couchant/couchantlaw04.TallyWorn", spec := "tallyWorn", unfollowed := true, recurses := true, apart := false, narrowed := true }
def TallyWornUptoSaid : Prop := tallyWornUptoRow.holds Try.pinned (OpenSpec.upto tallyWornSpec)

/-- 'couchantlaw04.TallyCounts', WHERE WHAT IT READS IS OF BULK AT MOST 1048576: true; the input reads as it did. -/
def tallyCountsUptoRow : OpenClaim := { program := "ytokpjaodchcheaa", sum := "b85ea1713918f0513eca2c068caadda179e64baae44a79f0034a598264692e17", func := "couchant/couchantlaw04.TallyCounts", spec := "tallyCounts", unfollowed := true, recurses := true, apart := false, narrowed := true }
def TallyCountsUptoSaid : Prop := tallyCountsUptoRow.holds Try.pinned (OpenSpec.upto tallyCountsSpec)

/-- 'couchantlaw04.TallyRates', WHERE WHAT IT READS IS OF BULK AT MOST 1048576: true; the input reads as it did. -/
def tallyRatesUptoRow : OpenClaim := { program := "ytokpjaodchcheaa", sum := "b85ea1713918f0513eca2c068caadda179e64baae44a79f0034a598264692e17", func := "couchant/couchantlaw04.TallyRates", spec := "tallyRates", unfollowed := true, recurses := true, apart := false, narrowed := true }
def TallyRatesUptoSaid : Prop := tallyRatesUptoRow.holds Try.pinned (OpenSpec.upto tallyRatesSpec)

/-- 'couchantlaw04.TallyLeast', WHERE WHAT IT READS IS OF BULK AT MOST 1048576: true; the input reads as it did. -/
def tallyLeastUptoRow : OpenClaim := { program := "ytokpjaodchcheaa", sum := "b85ea1713918f0513eca2c068caadda179e64baae44a79f0034a598264692e17", func := "couchant/couchantlaw04.TallyLeast", spec := "tallyLeast", unfollowed := true, recurses := true, apart := false, narrowed := true }
def TallyLeastUptoSaid : Prop := tallyLeastUptoRow.holds Try.pinned (OpenSpec.upto tallyLeastSpec)

/-- 'couchantlaw04.TallyPassages', WHERE WHAT IT READS IS OF BULK AT MOST 1048576: true; the input reads as it did. -/
def tallyPassagesUptoRow : OpenClaim := { program := "ytokpjaodchcheaa", sum := "b85ea1713918f0513eca2c068caadda179e64baae44a79f0034a598264692e17", func := "couchant/couchantlaw04.TallyPassages", spec := "tallyPassages", unfollowed := true, recurses := true, apart := false, narrowed := true }
def TallyPassagesUptoSaid : Prop := tallyPassagesUptoRow.holds Try.pinned (OpenSpec.upto tallyPassagesSpec)

/-- 'couchantlaw04.TallyPassage', WHERE WHAT IT READS IS OF BULK AT MOST 1048576: true; the input reads as it did. -/
def tallyPassageUptoRow : OpenClaim := { program := "ytokpjaodchcheaa", sum := "b85ea1713918f0513eca2c068caadda179e64baae44a79f0034a598264692e17", func := "couchant/couchantlaw04.TallyPassage", spec := "tallyPassage", unfollowed := true, recurses := true, apart := false, narrowed := true }
def TallyPassageUptoSaid : Prop := tallyPassageUptoRow.holds Try.pinned (OpenSpec.upto tallyPassageSpec)

/-- 'couchantlaw04.TallyIntervals', WHERE WHAT IT READS IS OF BULK AT MOST 1048576: true; the input reads as it did. -/
def tallyIntervalsUptoRow : OpenClaim := { program := "ytokpjaodchcheaa", sum := "b85ea1713918f0513eca2c068caadda179e64baae44a79f0034a598264692e17", func := "couchant/couchantlaw04.TallyIntervals", spec := "tallyIntervals", unfollowed := true, recurses := true, apart := false, narrowed := true }
def TallyIntervalsUptoSaid : Prop := tallyIntervalsUptoRow.holds Try.pinned (OpenSpec.upto tallyIntervalsSpec)

/-- 'couchantlaw04.TallySums', WHERE WHAT IT READS IS OF BULK AT MOST 1048576: true; the input reads as it did. -/
def tallySumsUptoRow : OpenClaim := { program := "ytokpjaodchcheaa", sum := "b85ea1713918f0513eca2c068caadda179e64baae44a79f0034a598264692e17", func := "couchant/couchantlaw04.TallySums", spec := "tallySums", unfollowed := true, recurses := true, apart := false, narrowed := true }
def TallySumsUptoSaid : Prop := tallySumsUptoRow.holds Try.pinned (OpenSpec.upto tallySumsSpec)

end Rows
end Go.Proofs.Ytokpjaodchcheaa
