/- 'tidepolelaw22.works' answers true, by running it in FS. -/
import Derived.ProofKit
import Derived.Test.YtcndhccodiinoaaGreatRows
import Derived.Test.YtcndhccodiinoaaGreatFp
set_option autoImplicit false
namespace Go.Proofs.YtcndhccodiinoaaGreat.relabVoid
open Go.FS Go.RowKit
def An : Ann TrH := { i := noI, N := 1000000, row := fun f => Nat.beq f 75, cut := fun _ => none }
set_option maxRecDepth 1000000 in
theorem works : (callD Tryz.prog An 60 (.fn 7) [] emptyS).map (·.1) = some (.bool true) := by kernel_rfl
end Go.Proofs.YtcndhccodiinoaaGreat.relabVoid
