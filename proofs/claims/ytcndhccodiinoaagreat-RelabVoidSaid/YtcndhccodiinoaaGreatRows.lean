/-
  No cell of these rows narrows 'for every input' (looked for: loops, veiled, ifaces, maps, wideKeys, modest, calm, conditions, laid).
  DERIVED. THE GIVEN ROWS OF THIS SEAT. 4 by the template 'for every input the law returns true; each argument reads behind the call as it read before'; 0 by the template 'total and deterministic' (their statements: YtcndhccodiinoaaGreatTotals.lean).
  GIVEN WITH THE SEED: the statements are not yours to turn. If you find one false, say at which input.
  Laid BY PROGRAM, IN A SANDBOX (cutbox-rows.mjs): the forced cells as the released guide's own fill.sh prints them over the translation e546915ec93c20dd… (all of the seat's roots in one cut). By AI agents, Wed Nov 11 2026. No macro, syntax, notation, axiom, sorry.
-/
import Derived.Test.YtcndhccodiinoaaGreatChecked
import GoSem.Claim
import GoSem.ClaimJoined
import GoSem.ClaimMapViews
import Derived.JoinedTies
import Derived.KernelRfl
namespace Go.Proofs.YtcndhccodiinoaaGreat
/- THE CELL 'sum', in the pinned program and in every row, IS THE sha256 OF THE DUMP (.gsa) THAT YtcndhccodiinoaaGreatProg.lean LOADS. Nothing in Lean hashes anything: it is a label: what it is worth is what the hold of that sum in a sandbox is worth. -/
noncomputable def Tryz.pinned : Pinned := { name := "ytcndhccodiinoaagreat", sum := "e546915ec93c20ddf6a75c66ba95dd69c2fcfc6a0825190142e690041bc8b563", checked := Tryz.checked }
namespace Rows
def none {H : Type} : Left H := { results := [], args := [] }

/-- 'tidepolelaw22.RelabOnce': WHATEVER THE INPUT: true; the input reads as it did. -/
def relabOnceSpec : ChangeSpec := { name := "relabOnce", fn := fun _ => fun
  | [d] => { results := [.lit (.bool true)], args := [d] }
  | _ => none }
def relabOnceRow : OpenClaim := { program := "ytcndhccodiinoaagreat", sum := "e546915ec93c20ddf6a75c66ba95dd69c2fcfc6a0825190142e690041bc8b563", func := "tidepole/tidepolelaw22.RelabOnce", spec := "relabOnce", inPlace := ["slices.overlaps[tidepole/api.Label]"], unfollowed := true, recurses := true, apart := false }
def RelabOnceSaid : Prop := relabOnceRow.holds Tryz.pinned (OpenSpec.ofChange relabOnceSpec)

/-- ITS FALSE NEIGHBOUR: 'it returns false'. Refute it at one input. -/
def relabOnceWrong : ChangeSpec := { name := "relabOnce", fn := fun _ => fun
  | [d] => { results := [.lit (.bool false)], args := [d] }
  | _ => none }
def RelabOnceWrongFalsely : Prop := relabOnceRow.holds Tryz.pinned (OpenSpec.ofChange relabOnceWrong)

/-- 'tidepolelaw22.RelabPlays': WHATEVER THE INPUT: true; the input reads as it did. -/
def relabPlaysSpec : ChangeSpec := { name := "relabPlays", fn := fun _ => fun
  | [d] => { results := [.lit (.bool true)], args := [d] }
  | _ => none }
def relabPlaysRow : OpenClaim := { program := "ytcndhccodiinoaagreat", sum := "e546915ec93c20ddf6a75c66ba95dd69c2fcfc6a0825190142e690041bc8b563", func := "tidepole/tidepolelaw22.RelabPlays", spec := "relabPlays", inPlace := ["slices.overlaps[tidepole/api.Label]"], unfollowed := true, recurses := true, apart := false }
def RelabPlaysSaid : Prop := relabPlaysRow.holds Tryz.pinned (OpenSpec.ofChange relabPlaysSpec)

/-- ITS FALSE NEIGHBOUR: 'it returns false'. Refute it at one input. -/
def relabPlaysWrong : ChangeSpec := { name := "relabPlays", fn := fun _ => fun
  | [d] => { results := [.lit (.bool false)], args := [d] }
  | _ => none }
def RelabPlaysWrongFalsely : Prop := relabPlaysRow.holds Tryz.pinned (OpenSpec.ofChange relabPlaysWrong)

/-- 'tidepolelaw22.RelabVoid': WHATEVER THE INPUT: true; the input reads as it did. -/
def relabVoidSpec : ChangeSpec := { name := "relabVoid", fn := fun _ => fun
  | [d1, d2] => { results := [.lit (.bool true)], args := [d1, d2] }
  | _ => none }
def relabVoidRow : OpenClaim := { program := "ytcndhccodiinoaagreat", sum := "e546915ec93c20ddf6a75c66ba95dd69c2fcfc6a0825190142e690041bc8b563", func := "tidepole/tidepolelaw22.RelabVoid", spec := "relabVoid", inPlace := ["slices.overlaps[tidepole/api.Label]"], unfollowed := true, recurses := true, apart := false }
def RelabVoidSaid : Prop := relabVoidRow.holds Tryz.pinned (OpenSpec.ofChange relabVoidSpec)

/-- ITS FALSE NEIGHBOUR: 'it returns false'. Refute it at one input. -/
def relabVoidWrong : ChangeSpec := { name := "relabVoid", fn := fun _ => fun
  | [d1, d2] => { results := [.lit (.bool false)], args := [d1, d2] }
  | _ => none }
def RelabVoidWrongFalsely : Prop := relabVoidRow.holds Tryz.pinned (OpenSpec.ofChange relabVoidWrong)

/-- 'tidepolelaw22.RelabBack': WHATEVER THE INPUT: true; the input reads as it did. -/
def relabBackSpec : ChangeSpec := { name := "relabBack", fn := fun _ => fun
  | [d1, d2] => { results := [.lit (.bool true)], args := [d1, d2] }
  | _ => none }
def relabBackRow : OpenClaim := { program := "ytcndhccodiinoaagreat", sum := "e546915ec93c20ddf6a75c66ba95dd69c2fcfc6a0825190142e690041bc8b563", func := "tidepole/tidepolelaw22.RelabBack", spec := "relabBack", inPlace := ["slices.overlaps[tidepole/api.Label]"], unfollowed := true, recurses := true, apart := false }
def RelabBackSaid : Prop := relabBackRow.holds Tryz.pinned (OpenSpec.ofChange relabBackSpec)

/-- ITS FALSE NEIGHBOUR: 'it returns false'. Refute it at one input. -/
def relabBackWrong : ChangeSpec := { name := "relabBack", fn := fun _ => fun
  | [d1, d2] => { results := [.lit (.bool false)], args := [d1, d2] }
  | _ => none }
def RelabBackWrongFalsely : Prop := relabBackRow.holds Tryz.pinned (OpenSpec.ofChange relabBackWrong)

/- THE SECOND FORM. 'bulk': how many values and letters a reading holds, each counted each time it is reached (what is shared counts as often as it is met; a slice's spare places count too). A statement '..UptoSaid' is the law's where the arguments, and the package variables that the reading takes, are together of bulk at most 1048576: NARROWER than '..Said'. Prove '..Said' where nothing that the law and all that it calls make is longer than what came in: it says more and counts as full. Else prove '..UptoSaid'. A law counts once. -/
mutual
def uptoBulk {H : Type} : DataW H → Nat
  | .lit (.string bytes) => bytes.length + 1
  | .lit _ => 1
  | .nil => 1
  | .ptr d => uptoBulk d + 1
  | .slice elems spare => uptoBulkAll elems + uptoBulkAll spare + 1
  | .agg parts => uptoBulkAll parts + 1
  | .iface _ d => uptoBulk d + 1
  | .map entries => uptoBulkEntries entries + 1
  | .held _ => 1
def uptoBulkAll {H : Type} : List (DataW H) → Nat
  | [] => 0
  | d :: r => uptoBulk d + uptoBulkAll r
def uptoBulkEntries {H : Type} : List (Lit × DataW H) → Nat
  | [] => 0
  | x :: r => uptoBulkEntry x + uptoBulkEntries r
def uptoBulkEntry {H : Type} : Lit × DataW H → Nat
  | (.string bytes, d) => bytes.length + uptoBulk d + 1
  | (_, d) => uptoBulk d + 1
 end
def uptoSmall : (H : Type) → List (DataW H) → Bool := fun _ ds => decide (uptoBulkAll ds ≤ 1048576)
def OpenSpec.upto (s : _root_.Go.ChangeSpec) : _root_.Go.OpenSpec := { _root_.Go.OpenSpec.ofChange s with cond := some uptoSmall }

/-- 'tidepolelaw22.RelabOnce', WHERE WHAT IT READS IS OF BULK AT MOST 1048576: true; the input reads as it did. -/
def relabOnceUptoRow : OpenClaim := { program := "ytcndhccodiinoaagreat", sum := "e546915ec93c20ddf6a75c66ba95dd69c2fcfc6a0825190142e690041bc8b563", func := "tidepole/tidepolelaw22.RelabOnce", spec := "relabOnce", inPlace := ["slices.overlaps[tidepole/api.Label]"], unfollowed := true, recurses := true, apart := false, narrowed := true }
def RelabOnceUptoSaid : Prop := relabOnceUptoRow.holds Tryz.pinned (OpenSpec.upto relabOnceSpec)

/-- 'tidepolelaw22.RelabPlays', WHERE WHAT IT READS IS OF BULK AT MOST 1048576: true; the input reads as it did. -/
def relabPlaysUptoRow : OpenClaim := { program := "ytcndhccodiinoaagreat", sum := "e546915ec93c20ddf6a75c66ba95dd69c2fcfc6a0825190142e690041bc8b563", func := "tidepole/tidepolelaw22.RelabPlays", spec := "relabPlays", inPlace := ["slices.overlaps[tidepole/api.Label]"], unfollowed := true, recurses := true, apart := false, narrowed := true }
def RelabPlaysUptoSaid : Prop := relabPlaysUptoRow.holds Tryz.pinned (OpenSpec.upto relabPlaysSpec)

/-- 'tidepolelaw22.RelabVoid', WHERE WHAT IT READS IS OF BULK AT MOST 1048576: true; the input reads as it did. -/
def relabVoidUptoRow : OpenClaim := { program := "ytcndhccodiinoaagreat", sum := "e546915ec93c20ddf6a75c66ba95dd69c2fcfc6a0825190142e690041bc8b563", func := "tidepole/tidepolelaw22.RelabVoid", spec := "relabVoid", inPlace := ["slices.overlaps[tidepole/api.Label]"], unfollowed := true, recurses := true, apart := false, narrowed := true }
def RelabVoidUptoSaid : Prop := relabVoidUptoRow.holds Tryz.pinned (OpenSpec.upto relabVoidSpec)

/-- 'tidepolelaw22.RelabBack', WHERE WHAT IT READS IS OF BULK AT MOST 1048576: true; the input reads as it did. -/
def relabBackUptoRow : OpenClaim := { program := "ytcndhccodiinoaagreat", sum := "e546915ec93c20ddf6a75c66ba95dd69c2fcfc6a0825190142e690041bc8b563", func := "tidepole/tidepolelaw22.RelabBack", spec := "relabBack", inPlace := ["slices.overlaps[tidepole/api.Label]"], unfollowed := true, recurses := true, apart := false, narrowed := true }
def RelabBackUptoSaid : Prop := relabBackUptoRow.holds Tryz.pinned (OpenSpec.upto relabBackSpec)

end Rows
end Go.Proofs.YtcndhccodiinoaaGreat
