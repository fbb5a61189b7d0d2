/- FS, part x: answers given by what the machine is known to do: a call that writes to nothing that was there. -/
import Derived.Test.YtmhmbmogodofeaaDoorFw
import Derived.Below
set_option autoImplicit false
namespace Go.FS
open Go.RowKit
variable {P : Program} {H : HeapI}
theorem WRel.below {E : Env} {s : St H} {w w' : World} (h : WRel E s w) (hb : Below w.heap.size w w') : WRel E s w' := by
  refine h.off hb.size fun b hlt _ => hb.block b hlt
theorem Keep.ofBelow {E : Env} {w w' : World} (hb : Below w.heap.size w w') : Keep E w E w' where
  le := .refl E
  fresh := fun i h1 h2 _ => absurd h2 (Nat.not_lt_of_le h1)
  tbf := fun b h => .inl h
  os := hb.os
  tape := hb.tape
  output := hb.output
  size := hb.size
  block := fun b h _ _ => hb.block b h
  fzf := fun _ _ _ _ _ => rfl
theorem fnok_of_calls {f : FuncId} {args' : Array Value} {w : World} {Q : Value → World → Prop} (hen : (callFunc f args').run P w = .ok (.enter f args') w) (hc : Calls P f args' w (AnsE Q)) : FnOk P f args' w Q := .inl ⟨hen, callsIn_wide.2 hc⟩
theorem fnok_pure {f : FuncId} {args' : Array Value} {E : Env} {s : St H} {w : World} {v v' : Value} (hW : WRel E s w) (hv : VRel E v v') (hen : (callFunc f args').run P w = .ok (.enter f args') w)
    (hc : Calls P f args' w fun e w' => e = .returned v' ∧ Below w.heap.size w w') : FnOk P f args' w (Ans E w v s) := by
  refine fnok_of_calls hen (hc.mono ?_)
  rintro e w' ⟨rfl, hb⟩
  exact ⟨E, hv, hW.below hb, .ofBelow hb⟩
end Go.FS
