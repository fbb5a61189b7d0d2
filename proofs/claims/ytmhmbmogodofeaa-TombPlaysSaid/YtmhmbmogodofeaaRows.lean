/-
  No cell of these rows narrows 'for every input' (looked for: loops, veiled, ifaces, maps, wideKeys, modest, calm, conditions, laid).
  DERIVED. THE GIVEN ROWS OF THIS SEAT. 14 by the template 'for every input the law returns true; each argument reads behind the call as it read before'; 0 by the template 'total and deterministic' (their statements: YtmhmbmogodofeaaTotals.lean).
  GIVEN WITH THE SEED: the statements are not yours to turn. If you find one false, say at which input.
  Laid BY PROGRAM, IN A SANDBOX (cutbox-rows.mjs): the forced cells as the released guide's own fill.sh prints them over the translation 08cd259ba1c85899… (all of the seat's roots in one cut). By AI agents, Wed Nov 11 2026. No macro, syntax, notation, axiom, sorry.
-/
import Derived.Test.YtmhmbmogodofeaaChecked
import GoSem.Claim
import GoSem.ClaimJoined
import GoSem.ClaimMapViews
import Derived.JoinedTies
import Derived.KernelRfl
namespace Go.Proofs.Ytmhmbmogodofeaa
/- THE CELL 'sum', in the pinned program and in every row, IS THE sha256 OF THE DUMP (.gsa) THAT YtmhmbmogodofeaaProg.lean LOADS. Nothing in Lean hashes anything: it is a label: what it is worth is what the hold of that sum in a sandbox is worth. -/
noncomputable def Try.pinned : Pinned := { name := "ytmhmbmogodofeaa", sum := "08cd259ba1c858994601e3873f8f07e8e7f790f5cf5618ba548911a0ff007cae", checked := Try.checked }
namespace Rows
def none {H : Type} : Left H := { results := [], args := [] }

/-- 'tidepolelaw04.LabelSorts': WHATEVER THE INPUT: true; the input reads as it did. -/
def labelSortsSpec : ChangeSpec := { name := "labelSorts", fn := fun _ => fun
  | [d1, d2] => { results := [.lit (.bool true)], args := [d1, d2] }
  | _ => none }
def labelSortsRow : OpenClaim := { program := "ytmhmbmogodofeaa", sum := "08cd259ba1c858994601e3873f8f07e8e7f790f5cf5618ba548911a0ff007cae", func := "tidepole/tidepolelaw04.LabelSorts", spec := "labelSorts", inPlace := ["internal/bytealg.abigen_runtime_cmpstring", "internal/abi.NoEscape"], unfollowed := true, recurses := true, apart := false }
def LabelSortsSaid : Prop := labelSortsRow.holds Try.pinned (OpenSpec.ofChange labelSortsSpec)

/-- ITS FALSE NEIGHBOUR: 'it returns false'. Refute it at one input. -/
def labelSortsWrong : ChangeSpec := { name := "labelSorts", fn := fun _ => fun
  | [d1, d2] => { results := [.lit (.bool false)], args := [d1, d2] }
  | _ => none }
def LabelSortsWrongFalsely : Prop := labelSortsRow.holds Try.pinned (OpenSpec.ofChange labelSortsWrong)

/-- 'tidepolelaw04.LabelOrders': WHATEVER THE INPUT: true; the input reads as it did. -/
def labelOrdersSpec : ChangeSpec := { name := "labelOrders", fn := fun _ => fun
  | [d1, d2, d3] => { results := [.lit (.bool true)], args := [d1, d2, d3] }
  | _ => none }
def labelOrdersRow : OpenClaim := { program := "ytmhmbmogodofeaa", sum := "08cd259ba1c858994601e3873f8f07e8e7f790f5cf5618ba548911a0ff007cae", func := "tidepole/tidepolelaw04.LabelOrders", spec := "labelOrders", inPlace := ["internal/bytealg.abigen_runtime_cmpstring", "internal/abi.NoEscape"], unfollowed := true, recurses := true, apart := false }
def LabelOrdersSaid : Prop := labelOrdersRow.holds Try.pinned (OpenSpec.ofChange labelOrdersSpec)

/-- ITS FALSE NEIGHBOUR: 'it returns false'. Refute it at one input. -/
def labelOrdersWrong : ChangeSpec := { name := "labelOrders", fn := fun _ => fun
  | [d1, d2, d3] => { results := [.lit (.bool false)], args := [d1, d2, d3] }
  | _ => none }
def LabelOrdersWrongFalsely : Prop := labelOrdersRow.holds Try.pinned (OpenSpec.ofChange labelOrdersWrong)

/-- 'tidepolelaw04.LabelBack': WHATEVER THE INPUT: true; the input reads as it did. -/
def labelBackSpec : ChangeSpec := { name := "labelBack", fn := fun _ => fun
  | [d1, d2, d3] => { results := [.lit (.bool true)], args := [d1, d2, d3] }
  | _ => none }
def labelBackRow : OpenClaim := { program := "ytmhmbmogodofeaa", sum := "08cd259ba1c858994601e3873f8f07e8e7f790f5cf5618ba548911a0ff007cae", func := "tidepole/tidepolelaw04.LabelBack", spec := "labelBack", inPlace := ["internal/bytealg.abigen_runtime_cmpstring", "internal/abi.NoEscape"], unfollowed := true, recurses := true, apart := false }
def LabelBackSaid : Prop := labelBackRow.holds Try.pinned (OpenSpec.ofChange labelBackSpec)

/-- ITS FALSE NEIGHBOUR: 'it returns false'. Refute it at one input. -/
def labelBackWrong : ChangeSpec := { name := "labelBack", fn := fun _ => fun
  | [d1, d2, d3] => { results := [.lit (.bool false)], args := [d1, d2, d3] }
  | _ => none }
def LabelBackWrongFalsely : Prop := labelBackRow.holds Try.pinned (OpenSpec.ofChange labelBackWrong)

/-- 'tidepolelaw04.LabelTurns': WHATEVER THE INPUT: true; the input reads as it did. -/
def labelTurnsSpec : ChangeSpec := { name := "labelTurns", fn := fun _ => fun
  | [d1, d2, d3] => { results := [.lit (.bool true)], args := [d1, d2, d3] }
  | _ => none }
def labelTurnsRow : OpenClaim := { program := "ytmhmbmogodofeaa", sum := "08cd259ba1c858994601e3873f8f07e8e7f790f5cf5618ba548911a0ff007cae", func := "tidepole/tidepolelaw04.LabelTurns", spec := "labelTurns", inPlace := ["slices.overlaps[tidepole/api.Label]", "internal/bytealg.abigen_runtime_cmpstring", "internal/abi.NoEscape"], unfollowed := true, recurses := true, apart := false }
def LabelTurnsSaid : Prop := labelTurnsRow.holds Try.pinned (OpenSpec.ofChange labelTurnsSpec)

/-- ITS FALSE NEIGHBOUR: 'it returns false'. Refute it at one input. -/
def labelTurnsWrong : ChangeSpec := { name := "labelTurns", fn := fun _ => fun
  | [d1, d2, d3] => { results := [.lit (.bool false)], args := [d1, d2, d3] }
  | _ => none }
def LabelTurnsWrongFalsely : Prop := labelTurnsRow.holds Try.pinned (OpenSpec.ofChange labelTurnsWrong)

/-- 'tidepolelaw04.LabelUndone': WHATEVER THE INPUT: true; the input reads as it did. -/
def labelUndoneSpec : ChangeSpec := { name := "labelUndone", fn := fun _ => fun
  | [d1, d2, d3] => { results := [.lit (.bool true)], args := [d1, d2, d3] }
  | _ => none }
def labelUndoneRow : OpenClaim := { program := "ytmhmbmogodofeaa", sum := "08cd259ba1c858994601e3873f8f07e8e7f790f5cf5618ba548911a0ff007cae", func := "tidepole/tidepolelaw04.LabelUndone", spec := "labelUndone", inPlace := ["internal/bytealg.abigen_runtime_cmpstring", "internal/abi.NoEscape", "slices.overlaps[tidepole/api.Label]"], unfollowed := true, recurses := true, apart := false }
def LabelUndoneSaid : Prop := labelUndoneRow.holds Try.pinned (OpenSpec.ofChange labelUndoneSpec)

/-- ITS FALSE NEIGHBOUR: 'it returns false'. Refute it at one input. -/
def labelUndoneWrong : ChangeSpec := { name := "labelUndone", fn := fun _ => fun
  | [d1, d2, d3] => { results := [.lit (.bool false)], args := [d1, d2, d3] }
  | _ => none }
def LabelUndoneWrongFalsely : Prop := labelUndoneRow.holds Try.pinned (OpenSpec.ofChange labelUndoneWrong)

/-- 'tidepolelaw15.SymNumbers': WHATEVER THE INPUT: true; the input reads as it did. -/
def symNumbersSpec : ChangeSpec := { name := "symNumbers", fn := fun _ => fun
  | [d1, d2] => { results := [.lit (.bool true)], args := [d1, d2] }
  | _ => none }
def symNumbersRow : OpenClaim := { program := "ytmhmbmogodofeaa", sum := "08cd259ba1c858994601e3873f8f07e8e7f790f5cf5618ba548911a0ff007cae", func := "tidepole/tidepolelaw15.SymNumbers", spec := "symNumbers", unfollowed := true, recurses := true, apart := false }
def SymNumbersSaid : Prop := symNumbersRow.holds Try.pinned (OpenSpec.ofChange symNumbersSpec)

/-- ITS FALSE NEIGHBOUR: 'it returns false'. Refute it at one input. -/
def symNumbersWrong : ChangeSpec := { name := "symNumbers", fn := fun _ => fun
  | [d1, d2] => { results := [.lit (.bool false)], args := [d1, d2] }
  | _ => none }
def SymNumbersWrongFalsely : Prop := symNumbersRow.holds Try.pinned (OpenSpec.ofChange symNumbersWrong)

/-- 'tidepolelaw15.SymBack': WHATEVER THE INPUT: true; the input reads as it did. -/
def symBackSpec : ChangeSpec := { name := "symBack", fn := fun _ => fun
  | [d1, d2, d3] => { results := [.lit (.bool true)], args := [d1, d2, d3] }
  | _ => none }
def symBackRow : OpenClaim := { program := "ytmhmbmogodofeaa", sum := "08cd259ba1c858994601e3873f8f07e8e7f790f5cf5618ba548911a0ff007cae", func := "tidepole/tidepolelaw15.SymBack", spec := "symBack", unfollowed := true, recurses := true, apart := false }
def SymBackSaid : Prop := symBackRow.holds Try.pinned (OpenSpec.ofChange symBackSpec)

/-- ITS FALSE NEIGHBOUR: 'it returns false'. Refute it at one input. -/
def symBackWrong : ChangeSpec := { name := "symBack", fn := fun _ => fun
  | [d1, d2, d3] => { results := [.lit (.bool false)], args := [d1, d2, d3] }
  | _ => none }
def SymBackWrongFalsely : Prop := symBackRow.holds Try.pinned (OpenSpec.ofChange symBackWrong)

/-- 'tidepolelaw15.SymFull': WHATEVER THE INPUT: true; the input reads as it did. -/
def symFullSpec : ChangeSpec := { name := "symFull", fn := fun _ => fun
  | [d] => { results := [.lit (.bool true)], args := [d] }
  | _ => none }
def symFullRow : OpenClaim := { program := "ytmhmbmogodofeaa", sum := "08cd259ba1c858994601e3873f8f07e8e7f790f5cf5618ba548911a0ff007cae", func := "tidepole/tidepolelaw15.SymFull", spec := "symFull", unfollowed := true, recurses := true, apart := false }
def SymFullSaid : Prop := symFullRow.holds Try.pinned (OpenSpec.ofChange symFullSpec)

/-- ITS FALSE NEIGHBOUR: 'it returns false'. Refute it at one input. -/
def symFullWrong : ChangeSpec := { name := "symFull", fn := fun _ => fun
  | [d] => { results := [.lit (.bool false)], args := [d] }
  | _ => none }
def SymFullWrongFalsely : Prop := symFullRow.holds Try.pinned (OpenSpec.ofChange symFullWrong)

/-- 'tidepolelaw19.RecSame': WHATEVER THE INPUT: true; the input reads as it did. -/
def recSameSpec : ChangeSpec := { name := "recSame", fn := fun _ => fun
  | [d1, d2] => { results := [.lit (.bool true)], args := [d1, d2] }
  | _ => none }
def recSameRow : OpenClaim := { program := "ytmhmbmogodofeaa", sum := "08cd259ba1c858994601e3873f8f07e8e7f790f5cf5618ba548911a0ff007cae", func := "tidepole/tidepolelaw19.RecSame", spec := "recSame", unfollowed := true, recurses := true, apart := false }
def RecSameSaid : Prop := recSameRow.holds Try.pinned (OpenSpec.ofChange recSameSpec)

/-- ITS FALSE NEIGHBOUR: 'it returns false'. Refute it at one input. -/
def recSameWrong : ChangeSpec := { name := "recSame", fn := fun _ => fun
  | [d1, d2] => { results := [.lit (.bool false)], args := [d1, d2] }
  | _ => none }
def RecSameWrongFalsely : Prop := recSameRow.holds Try.pinned (OpenSpec.ofChange recSameWrong)

/-- 'tidepolelaw19.RecBack': WHATEVER THE INPUT: true; the input reads as it did. -/
def recBackSpec : ChangeSpec := { name := "recBack", fn := fun _ => fun
  | [d1, d2] => { results := [.lit (.bool true)], args := [d1, d2] }
  | _ => none }
def recBackRow : OpenClaim := { program := "ytmhmbmogodofeaa", sum := "08cd259ba1c858994601e3873f8f07e8e7f790f5cf5618ba548911a0ff007cae", func := "tidepole/tidepolelaw19.RecBack", spec := "recBack", unfollowed := true, recurses := true, apart := false }
def RecBackSaid : Prop := recBackRow.holds Try.pinned (OpenSpec.ofChange recBackSpec)

/-- ITS FALSE NEIGHBOUR: 'it returns false'. Refute it at one input. -/
def recBackWrong : ChangeSpec := { name := "recBack", fn := fun _ => fun
  | [d1, d2] => { results := [.lit (.bool false)], args := [d1, d2] }
  | _ => none }
def RecBackWrongFalsely : Prop := recBackRow.holds Try.pinned (OpenSpec.ofChange recBackWrong)

/-- 'tidepolelaw19.RecCuts': WHATEVER THE INPUT: true; the input reads as it did. -/
def recCutsSpec : ChangeSpec := { name := "recCuts", fn := fun _ => fun
  | [d1, d2] => { results := [.lit (.bool true)], args := [d1, d2] }
  | _ => none }
def recCutsRow : OpenClaim := { program := "ytmhmbmogodofeaa", sum := "08cd259ba1c858994601e3873f8f07e8e7f790f5cf5618ba548911a0ff007cae", func := "tidepole/tidepolelaw19.RecCuts", spec := "recCuts", unfollowed := true, recurses := true, apart := false }
def RecCutsSaid : Prop := recCutsRow.holds Try.pinned (OpenSpec.ofChange recCutsSpec)

/-- ITS FALSE NEIGHBOUR: 'it returns false'. Refute it at one input. -/
def recCutsWrong : ChangeSpec := { name := "recCuts", fn := fun _ => fun
  | [d1, d2] => { results := [.lit (.bool false)], args := [d1, d2] }
  | _ => none }
def RecCutsWrongFalsely : Prop := recCutsRow.holds Try.pinned (OpenSpec.ofChange recCutsWrong)

/-- 'tidepolelaw21.TombSets': WHATEVER THE INPUT: true; the input reads as it did. -/
def tombSetsSpec : ChangeSpec := { name := "tombSets", fn := fun _ => fun
  | [d1, d2] => { results := [.lit (.bool true)], args := [d1, d2] }
  | _ => none }
def tombSetsRow : OpenClaim := { program := "ytmhmbmogodofeaa", sum := "08cd259ba1c858994601e3873f8f07e8e7f790f5cf5618ba548911a0ff007cae", func := "tidepole/tidepolelaw21.TombSets", spec := "tombSets", unfollowed := true, recurses := true, apart := false }
def TombSetsSaid : Prop := tombSetsRow.holds Try.pinned (OpenSpec.ofChange tombSetsSpec)

/-- ITS FALSE NEIGHBOUR: 'it returns false'. Refute it at one input. -/
def tombSetsWrong : ChangeSpec := { name := "tombSets", fn := fun _ => fun
  | [d1, d2] => { results := [.lit (.bool false)], args := [d1, d2] }
  | _ => none }
def TombSetsWrongFalsely : Prop := tombSetsRow.holds Try.pinned (OpenSpec.ofChange tombSetsWrong)

/-- 'tidepolelaw21.TombPlays': WHATEVER THE INPUT: true; the input reads as it did. -/
def tombPlaysSpec : ChangeSpec := { name := "tombPlays", fn := fun _ => fun
  | [d1, d2, d3] => { results := [.lit (.bool true)], args := [d1, d2, d3] }
  | _ => none }
def tombPlaysRow : OpenClaim := { program := "ytmhmbmogodofeaa", sum := "08cd259ba1c858994601e3873f8f07e8e7f790f5cf5618ba548911a0ff007cae", func := "tidepole/tidepolelaw21.TombPlays", spec := "tombPlays", unfollowed := true, recurses := true, apart := false }
def TombPlaysSaid : Prop := tombPlaysRow.holds Try.pinned (OpenSpec.ofChange tombPlaysSpec)

/-- ITS FALSE NEIGHBOUR: 'it returns false'. Refute it at one input. -/
def tombPlaysWrong : ChangeSpec := { name := "tombPlays", fn := fun _ => fun
  | [d1, d2, d3] => { results := [.lit (.bool false)], args := [d1, d2, d3] }
  | _ => none }
def TombPlaysWrongFalsely : Prop := tombPlaysRow.holds Try.pinned (OpenSpec.ofChange tombPlaysWrong)

/-- 'tidepolelaw21.TombBack': WHATEVER THE INPUT: true; the input reads as it did. -/
def tombBackSpec : ChangeSpec := { name := "tombBack", fn := fun _ => fun
  | [d1, d2] => { results := [.lit (.bool true)], args := [d1, d2] }
  | _ => none }
def tombBackRow : OpenClaim := { program := "ytmhmbmogodofeaa", sum := "08cd259ba1c858994601e3873f8f07e8e7f790f5cf5618ba548911a0ff007cae", func := "tidepole/tidepolelaw21.TombBack", spec := "tombBack", unfollowed := true, recurses := true, apart := false }
def TombBackSaid : Prop := tombBackRow.holds Try.pinned (OpenSpec.ofChange tombBackSpec)

/-- ITS FALSE NEIGHBOUR: 'it returns false'. Refute it at one input. -/
def tombBackWrong : ChangeSpec := { name := "tombBack", fn := fun _ => fun
  | [d1, d2] => { results := [.lit (.bool false)], args := [d1, d2] }
  | _ => none }
def TombBackWrongFalsely : Prop := tombBackRow.holds Try.pinned (OpenSpec.ofChange tombBackWrong)

/- THE SECOND FORM. 'bulk': how many values and letters a reading holds, each counted each time it is reached (what is shared counts as often as it is met; a slice's spare places count too). A statement '..UptoSaid' is the law's where the arguments, and the package variables that the reading takes, are together of bulk at most 1048576: NARROWER than '..Said'. Prove '..Said' where nothing that the law and all that it calls make is longer than what came in: it says more and counts as full. Else prove '..UptoSaid'. A law counts once. -/
mutual
def uptoBulk {H : Type} : DataW H → Nat
  | .lit (.string bytes) => bytes.length + 1
  | .lit _ => 1
  | .nil => 1
  | .ptr d => uptoBulk d + 1
  | .slice elems spare => uptoBulkAll elems + uptoBulkAll spare + 1
  | .agg parts => uptoBulkAll parts + 1
  | .iface _ d => uptoBulk d + 1
  | .map entries => uptoBulkEntries entries + 1
  | .held _ => 1
def uptoBulkAll {H : Type} : List (DataW H) → Nat
  | [] => 0
  | d :: r => uptoBulk d + uptoBulkAll r
def uptoBulkEntries {H : Type} : List (Lit × DataW H) → Nat
  | [] => 0
  | x :: r => uptoBulkEntry x + uptoBulkEntries r
def uptoBulkEntry {H : Type} : Lit × DataW H → Nat
  | (.string bytes, d) => bytes.length + uptoBulk d + 1
  | (_, d) => uptoBulk d + 1
 end
def uptoSmall : (H : Type) → List (DataW H) → Bool := fun _ ds => decide (uptoBulkAll ds ≤ 1048576)
def OpenSpec.upto (s : _root_.Go.ChangeSpec) : _root_.Go.OpenSpec := { _root_.Go.OpenSpec.ofChange s with cond := some uptoSmall }

/-- 'tidepolelaw04.LabelSorts', WHERE WHAT IT READS IS OF BULK AT MOST 1048576: true; the input reads as it did. -/
def labelSortsUptoRow : OpenClaim := { program := "ytmhmbmogodofeaa", sum := "08cd259ba1c858994601e3873f8f07e8e7f790f5cf5618ba548911a0ff007cae", func := "tidepole/tidepolelaw04.LabelSorts", spec := "labelSorts", inPlace := ["internal/bytealg.abigen_runtime_cmpstring", "internal/abi.NoEscape"], unfollowed := true, recurses := true, apart := false, narrowed := true }
def LabelSortsUptoSaid : Prop := labelSortsUptoRow.holds Try.pinned (OpenSpec.upto labelSortsSpec)

/-- 'tidepolelaw04.LabelOrders', WHERE WHAT IT READS IS OF BULK AT MOST 1048576: true; the input reads as it did. -/
def labelOrdersUptoRow : OpenClaim := { program := "ytmhmbmogodofeaa", sum := "08cd259ba1c858994601e3873f8f07e8e7f790f5cf5618ba548911a0ff007cae", func := "tidepole/tidepolelaw04.LabelOrders", spec := "labelOrders", inPlace := ["internal/bytealg.abigen_runtime_cmpstring", "internal/abi.NoEscape"], unfollowed := true, recurses := true, apart := false, narrowed := true }
def LabelOrdersUptoSaid : Prop := labelOrdersUptoRow.holds Try.pinned (OpenSpec.upto labelOrdersSpec)

/-- 'tidepolelaw04.LabelBack', WHERE WHAT IT READS IS OF BULK AT MOST 1048576: true; the input reads as it did. -/
def labelBackUptoRow : OpenClaim := { program := "ytmhmbmogodofeaa", sum := "08cd259ba1c858994601e3873f8f07e8e7f790f5cf5618ba548911a0ff007cae", func := "tidepole/tidepolelaw04.LabelBack", spec := "labelBack", inPlace := ["internal/bytealg.abigen_runtime_cmpstring", "internal/abi.NoEscape"], unfollowed := true, recurses := true, apart := false, narrowed := true }
def LabelBackUptoSaid : Prop := labelBackUptoRow.holds Try.pinned (OpenSpec.upto labelBackSpec)

/-- 'tidepolelaw04.LabelTurns', WHERE WHAT IT READS IS OF BULK AT MOST 1048576: true; the input reads as it did. -/
def labelTurnsUptoRow : OpenClaim := { program := "ytmhmbmogodofeaa", sum := "08cd259ba1c858994601e3873f8f07e8e7f790f5cf5618ba548911a0ff007cae", func := "tidepole/tidepolelaw04.LabelTurns", spec := "labelTurns", inPlace := ["slices.overlaps[tidepole/api.Label]", "internal/bytealg.abigen_runtime_cmpstring", "internal/abi.NoEscape"], unfollowed := true, recurses := true, apart := false, narrowed := true }
def LabelTurnsUptoSaid : Prop := labelTurnsUptoRow.holds Try.pinned (OpenSpec.upto labelTurnsSpec)

/-- 'tidepolelaw04.LabelUndone', WHERE WHAT IT READS IS OF BULK AT MOST 1048576: true; the input reads as it did. -/
def labelUndoneUptoRow : OpenClaim := { program := "ytmhmbmogodofeaa", sum := "08cd259ba1c858994601e3873f8f07e8e7f790f5cf5618ba548911a0ff007cae", func := "tidepole/tidepolelaw04.LabelUndone", spec := "labelUndone", inPlace := ["internal/bytealg.abigen_runtime_cmpstring", "internal/abi.NoEscape", "slices.overlaps[tidepole/api.Label]"], unfollowed := true, recurses := true, apart := false, narrowed := true }
def LabelUndoneUptoSaid : Prop := labelUndoneUptoRow.holds Try.pinned (OpenSpec.upto labelUndoneSpec)

/-- 'tidepolelaw15.SymNumbers', WHERE WHAT IT READS IS OF BULK AT MOST 1048576: true; the input reads as it did. -/
def symNumbersUptoRow : OpenClaim := { program := "ytmhmbmogodofeaa", sum := "08cd259ba1c858994601e3873f8f07e8e7f790f5cf5618ba548911a0ff007cae", func := "tidepole/tidepolelaw15.SymNumbers", spec := "symNumbers", unfollowed := true, recurses := true, apart := false, narrowed := true }
def SymNumbersUptoSaid : Prop := symNumbersUptoRow.holds Try.pinned (OpenSpec.upto symNumbersSpec)

/-- 'tidepolelaw15.SymBack', WHERE WHAT IT READS IS OF BULK AT MOST 1048576: true; the input reads as it did. -/
def symBackUptoRow : OpenClaim := { program := "ytmhmbmogodofeaa", sum := "08cd259ba1c858994601e3873f8f07e8e7f790f5cf5618ba548911a0ff007cae", func := "tidepole/tidepolelaw15.SymBack", spec := "symBack", unfollowed := true, recurses := true, apart := false, narrowed := true }
def SymBackUptoSaid : Prop := symBackUptoRow.holds Try.pinned (OpenSpec.upto symBackSpec)

/-- 'tidepolelaw15.SymFull', WHERE WHAT IT READS IS OF BULK AT MOST 1048576: true; the input reads as it did. -/
def symFullUptoRow : OpenClaim := { program := "ytmhmbmogodofeaa", sum := "08cd259ba1c858994601e3873f8f07e8e7f790f5cf5618ba548911a0ff007cae", func := "tidepole/tidepolelaw15.SymFull", spec := "symFull", unfollowed := true, recurses := true, apart := false, narrowed := true }
def SymFullUptoSaid : Prop := symFullUptoRow.holds Try.pinned (OpenSpec.upto symFullSpec)

/-- 'tidepolelaw19.RecSame', WHERE WHAT IT READS IS OF BULK AT MOST 1048576: true; the input reads as it did. -/
def recSameUptoRow : OpenClaim := { program := "ytmhmbmogodofeaa", sum := "08cd259ba1c858994601e3873f8f07e8e7f790f5cf5618ba548911a0ff007cae", func := "tidepole/tidepolelaw19.RecSame", spec := "recSame", unfollowed := true, recurses := true, apart := false, narrowed := true }
def RecSameUptoSaid : Prop := recSameUptoRow.holds Try.pinned (OpenSpec.upto recSameSpec)

/-- 'tidepolelaw19.RecBack', WHERE WHAT IT READS IS OF BULK AT MOST 1048576: true; the input reads as it did. -/
def recBackUptoRow : OpenClaim := { program := "ytmhmbmogodofeaa", sum := "08cd259ba1c858994601e3873f8f07e8e7f790f5cf5618ba548911a0ff007cae", func := "tidepole/tidepolelaw19.RecBack", spec := "recBack", unfollowed := true, recurses := true, apart := false, narrowed := true }
def RecBackUptoSaid : Prop := recBackUptoRow.holds Try.pinned (OpenSpec.upto recBackSpec)

/-- 'tidepolelaw19.RecCuts', WHERE WHAT IT READS IS OF BULK AT MOST 1048576: true; the input reads as it did. -/
def recCutsUptoRow : OpenClaim := { program := "ytmhmbmogodofeaa", sum := "08cd259ba1c858994601e3873f8f07e8e7f790f5cf5618ba548911a0ff007cae", func := "tidepole/tidepolelaw19.RecCuts", spec := "recCuts", unfollowed := true, recurses := true, apart := false, narrowed := true }
def RecCutsUptoSaid : Prop := recCutsUptoRow.holds Try.pinned (OpenSpec.upto recCutsSpec)

/-- 'tidepolelaw21.TombSets', WHERE WHAT IT READS IS OF BULK AT MOST 1048576: true; the input reads as it did. -/
def tombSetsUptoRow : OpenClaim := { program := "ytmhmbmogodofeaa", sum := "08cd259ba1c858994601e3873f8f07e8e7f790f5cf5618ba548911a0ff007cae", func := "tidepole/tidepolelaw21.TombSets", spec := "tombSets", unfollowed := true, recurses := true, apart := false, narrowed := true }
def TombSetsUptoSaid : Prop := tombSetsUptoRow.holds Try.pinned (OpenSpec.upto tombSetsSpec)

/-- 'tidepolelaw21.TombPlays', WHERE WHAT IT READS IS OF BULK AT MOST 1048576: true; the input reads as it did. -/
def tombPlaysUptoRow : OpenClaim := { program := "ytmhmbmogodofeaa", sum := "08cd259ba1c858994601e3873f8f07e8e7f790f5cf5618ba548911a0ff007cae", func := "tidepole/tidepolelaw21.TombPlays", spec := "tombPlays", unfollowed := true, recurses := true, apart := false, narrowed := true }
def TombPlaysUptoSaid : Prop := tombPlaysUptoRow.holds Try.pinned (OpenSpec.upto tombPlaysSpec)

/-- 'tidepolelaw21.TombBack', WHERE WHAT IT READS IS OF BULK AT MOST 1048576: true; the input reads as it did. -/
def tombBackUptoRow : OpenClaim := { program := "ytmhmbmogodofeaa", sum := "08cd259ba1c858994601e3873f8f07e8e7f790f5cf5618ba548911a0ff007cae", func := "tidepole/tidepolelaw21.TombBack", spec := "tombBack", unfollowed := true, recurses := true, apart := false, narrowed := true }
def TombBackUptoSaid : Prop := tombBackUptoRow.holds Try.pinned (OpenSpec.upto tombBackSpec)

end Rows
end Go.Proofs.Ytmhmbmogodofeaa
