/- The answers: text, Compare, Insert. -/
import Derived.Test.YtmhmbmogodofeaaTIc
set_option autoImplicit false
namespace Go.Proofs.Ytmhmbmogodofeaa.T
open Go.Shelf Go.RowKit Go.FS
variable {H : HeapI}
theorem iW_ok : IOk Try.prog (iW (H := H)) := by
  intro f i h args s v s' hi E w args' hW hL
  unfold iW at h
  by_cases e : f = 78
  · subst e
    have h : some iIns = some i := h
    injection h with h
    subst h
    exact iIns_ok hi hW hL
  · rw [beq_no e] at h
    exact iL_ok f i h args s v s' hi E w args' hW hL
end Go.Proofs.Ytmhmbmogodofeaa.T
