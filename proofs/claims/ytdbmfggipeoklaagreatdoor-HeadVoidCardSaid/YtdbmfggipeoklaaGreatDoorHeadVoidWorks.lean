/- 'tidepolelaw23.works' answers true, by running it in FS, with the plain runs of its functions; the tables hold what the program's text lays. -/
import Derived.Test.YtdbmfggipeoklaaGreatDoorHeadVoidTable
set_option autoImplicit false
namespace Go.Proofs.YtdbmfggipeoklaaGreatDoor.headVoid
open Go.FS Go.RowKit
set_option maxRecDepth 1000000 in
theorem worksQ : allTrue (callG Tryz.prog Aw tb 200 (.fn 8) [] emptyS) = true := by kernel_rfl
theorem works : allTrue (callD Tryz.prog Aw 200 (.fn 8) [] emptyS) = true := by rw [← callG_eq tb_ok]; exact worksQ
end Go.Proofs.YtdbmfggipeoklaaGreatDoor.headVoid
