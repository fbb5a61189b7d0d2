import Derived.Test.YtmhmbmogodofeaaFw
import Derived.Below
namespace Go.FS
open Go.RowKit
variable {P:Program} {H:HeapI}
theorem WRel.below {E:Env} {s:St H} {w w':World} (h:WRel E s w) (hb:Below w.heap.size w w'):WRel E s w':=by
 refine h.off hb.size fun b hlt _=>hb.block b hlt
end Go.FS
