/- FS, part x: answers given by what the machine is known to do: a call that writes to nothing that was there. -/
import Derived.Test.YtmhmbmogodofeaaFw
import Derived.Below
set_option autoImplicit false
namespace Go.FS
open Go.RowKit
variable {P:Program} {H:HeapI}
theorem WRel.below {E:Env} {s:St H} {w w':World} (h:WRel E s w) (hb:Below w.heap.size w w'):WRel E s w':=by
  refine h.off hb.size fun b hlt _=>hb.block b hlt
end Go.FS
