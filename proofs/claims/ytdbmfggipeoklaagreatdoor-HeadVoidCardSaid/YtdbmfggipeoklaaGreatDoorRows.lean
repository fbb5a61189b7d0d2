/-
  NARROWER THAN 'FOR EVERY INPUT', by the rows' own cells (each row's printed sentence says how): HeadSleeps: laid · HeadDays: laid · HeadLong: laid · HeadPlays: laid · HeadVoid: laid.
  DERIVED. THE GIVEN ROWS OF THIS SEAT. 5 by the template 'for every input the law returns true; each argument reads behind the call as it read before'; 0 by the template 'total and deterministic' (their statements: YtdbmfggipeoklaaGreatDoorTotals.lean).
  GIVEN WITH THE SEED: the statements are not yours to turn. If you find one false, say at which input.
  Laid BY PROGRAM, IN A SANDBOX (cutbox-rows.mjs): the forced cells as the released guide's own fill.sh prints them over the translation e363f471547420de… (all of the seat's roots in one cut). By AI agents, Wed Nov 11 2026. No macro, syntax, notation, axiom, sorry.
-/
import Derived.Test.YtdbmfggipeoklaaGreatDoorChecked
import GoSem.Claim
import GoSem.ClaimJoined
import GoSem.ClaimMapViews
import Derived.JoinedTies
import Derived.KernelRfl
namespace Go.Proofs.YtdbmfggipeoklaaGreatDoor
/- THE CELL 'sum', in the pinned program and in every row, IS THE sha256 OF THE DUMP (.gsa) THAT YtdbmfggipeoklaaGreatDoorProg.lean LOADS. Nothing in Lean hashes anything: it is a label: what it is worth is what the hold of that sum in a sandbox is worth. -/
noncomputable def Tryz.pinned : Pinned := { name := "ytdbmfggipeoklaagreatdoor", sum := "e363f471547420de2b3e2632b54a76fedbaf621a171ed13a0939aa3e366ea457", checked := Tryz.checked }
namespace Rows
def none {H : Type} : Left H := { results := [], args := [] }

/- WHAT THE LISTED PACKAGE-LEVEL VARIABLES READ AS WHEN THE CALL BEGINS. Each datum BY PROGRAM (the guide's laid-datum.mjs) off the statement by which the dump's own 'gosem.cut.vars' lays the variable. In a bare row this is a premise. The card (YtdbmfggipeoklaaGreatDoorCards.lean) ties it to the program's text. -/
def laid_math_bits_deBruijn64tab {H : Type} : DataW H := .agg [.lit (.int .u8 0), .lit (.int .u8 1), .lit (.int .u8 56), .lit (.int .u8 2), .lit (.int .u8 57), .lit (.int .u8 49), .lit (.int .u8 28), .lit (.int .u8 3), .lit (.int .u8 61), .lit (.int .u8 58), .lit (.int .u8 42), .lit (.int .u8 50), .lit (.int .u8 38), .lit (.int .u8 29), .lit (.int .u8 17), .lit (.int .u8 4), .lit (.int .u8 62), .lit (.int .u8 47), .lit (.int .u8 59), .lit (.int .u8 36), .lit (.int .u8 45), .lit (.int .u8 43), .lit (.int .u8 51), .lit (.int .u8 22), .lit (.int .u8 53), .lit (.int .u8 39), .lit (.int .u8 33), .lit (.int .u8 30), .lit (.int .u8 24), .lit (.int .u8 18), .lit (.int .u8 12), .lit (.int .u8 5), .lit (.int .u8 63), .lit (.int .u8 55), .lit (.int .u8 48), .lit (.int .u8 27), .lit (.int .u8 60), .lit (.int .u8 41), .lit (.int .u8 37), .lit (.int .u8 16), .lit (.int .u8 46), .lit (.int .u8 35), .lit (.int .u8 44), .lit (.int .u8 21), .lit (.int .u8 52), .lit (.int .u8 32), .lit (.int .u8 23), .lit (.int .u8 11), .lit (.int .u8 54), .lit (.int .u8 26), .lit (.int .u8 40), .lit (.int .u8 15), .lit (.int .u8 34), .lit (.int .u8 20), .lit (.int .u8 31), .lit (.int .u8 10), .lit (.int .u8 25), .lit (.int .u8 14), .lit (.int .u8 19), .lit (.int .u8 9), .lit (.int .u8 13), .lit (.int .u8 8), .lit (.int .u8 7), .lit (.int .u8 6)]
def laid_tidepole_stamp_classes {H : Type} : DataW H := .agg [.agg [.lit (.int .i64 0), .lit (.int .i64 1), .lit (.int .i64 0)], .agg [.lit (.int .i64 1), .lit (.int .i64 1), .lit (.int .i64 7)], .agg [.lit (.int .i64 2), .lit (.int .i64 1), .lit (.int .i64 12)], .agg [.lit (.int .i64 3), .lit (.int .i64 1), .lit (.int .i64 20)], .agg [.lit (.int .i64 4), .lit (.int .i64 0), .lit (.int .i64 48)]]

/-- 'tidepolelaw23.HeadSleeps': WHATEVER THE INPUT: true; the input reads as it did. -/
def headSleepsSpec : ChangeSpec := { name := "headSleeps", fn := fun _ => fun
  | [d] => { results := [.lit (.bool true)], args := [d] }
  | _ => none }
def headSleepsRow : OpenClaim := { program := "ytdbmfggipeoklaagreatdoor", sum := "e363f471547420de2b3e2632b54a76fedbaf621a171ed13a0939aa3e366ea457", func := "tidepole/tidepolelaw23.HeadSleeps", spec := "headSleeps", unfollowed := true, recurses := true, named := ["tidepole/stamp.classes", "math/bits.deBruijn64tab"], apart := false, laid := [("math/bits.deBruijn64tab", laid_math_bits_deBruijn64tab), ("tidepole/stamp.classes", laid_tidepole_stamp_classes)] }
def HeadSleepsSaid : Prop := headSleepsRow.holds Tryz.pinned (OpenSpec.ofChange headSleepsSpec)

/-- ITS FALSE NEIGHBOUR: 'it returns false'. Refute it at one input. -/
def headSleepsWrong : ChangeSpec := { name := "headSleeps", fn := fun _ => fun
  | [d] => { results := [.lit (.bool false)], args := [d] }
  | _ => none }
def HeadSleepsWrongFalsely : Prop := headSleepsRow.holds Tryz.pinned (OpenSpec.ofChange headSleepsWrong)

/-- 'tidepolelaw23.HeadDays': WHATEVER THE INPUT: true; the input reads as it did. -/
def headDaysSpec : ChangeSpec := { name := "headDays", fn := fun _ => fun
  | [d] => { results := [.lit (.bool true)], args := [d] }
  | _ => none }
def headDaysRow : OpenClaim := { program := "ytdbmfggipeoklaagreatdoor", sum := "e363f471547420de2b3e2632b54a76fedbaf621a171ed13a0939aa3e366ea457", func := "tidepole/tidepolelaw23.HeadDays", spec := "headDays", unfollowed := true, recurses := true, named := ["tidepole/stamp.classes", "math/bits.deBruijn64tab"], apart := false, laid := [("math/bits.deBruijn64tab", laid_math_bits_deBruijn64tab), ("tidepole/stamp.classes", laid_tidepole_stamp_classes)] }
def HeadDaysSaid : Prop := headDaysRow.holds Tryz.pinned (OpenSpec.ofChange headDaysSpec)

/-- ITS FALSE NEIGHBOUR: 'it returns false'. Refute it at one input. -/
def headDaysWrong : ChangeSpec := { name := "headDays", fn := fun _ => fun
  | [d] => { results := [.lit (.bool false)], args := [d] }
  | _ => none }
def HeadDaysWrongFalsely : Prop := headDaysRow.holds Tryz.pinned (OpenSpec.ofChange headDaysWrong)

/-- 'tidepolelaw23.HeadLong': WHATEVER THE INPUT: true; the input reads as it did. -/
def headLongSpec : ChangeSpec := { name := "headLong", fn := fun _ => fun
  | [d1, d2, d3] => { results := [.lit (.bool true)], args := [d1, d2, d3] }
  | _ => none }
def headLongRow : OpenClaim := { program := "ytdbmfggipeoklaagreatdoor", sum := "e363f471547420de2b3e2632b54a76fedbaf621a171ed13a0939aa3e366ea457", func := "tidepole/tidepolelaw23.HeadLong", spec := "headLong", unfollowed := true, recurses := true, named := ["tidepole/stamp.classes", "math/bits.deBruijn64tab"], apart := false, laid := [("math/bits.deBruijn64tab", laid_math_bits_deBruijn64tab), ("tidepole/stamp.classes", laid_tidepole_stamp_classes)] }
def HeadLongSaid : Prop := headLongRow.holds Tryz.pinned (OpenSpec.ofChange headLongSpec)

/-- ITS FALSE NEIGHBOUR: 'it returns false'. Refute it at one input. -/
def headLongWrong : ChangeSpec := { name := "headLong", fn := fun _ => fun
  | [d1, d2, d3] => { results := [.lit (.bool false)], args := [d1, d2, d3] }
  | _ => none }
def HeadLongWrongFalsely : Prop := headLongRow.holds Tryz.pinned (OpenSpec.ofChange headLongWrong)

/-- 'tidepolelaw23.HeadPlays': WHATEVER THE INPUT: true; the input reads as it did. -/
def headPlaysSpec : ChangeSpec := { name := "headPlays", fn := fun _ => fun
  | [d1, d2] => { results := [.lit (.bool true)], args := [d1, d2] }
  | _ => none }
def headPlaysRow : OpenClaim := { program := "ytdbmfggipeoklaagreatdoor", sum := "e363f471547420de2b3e2632b54a76fedbaf621a171ed13a0939aa3e366ea457", func := "tidepole/tidepolelaw23.HeadPlays", spec := "headPlays", unfollowed := true, recurses := true, named := ["tidepole/stamp.classes", "math/bits.deBruijn64tab"], apart := false, laid := [("math/bits.deBruijn64tab", laid_math_bits_deBruijn64tab), ("tidepole/stamp.classes", laid_tidepole_stamp_classes)] }
def HeadPlaysSaid : Prop := headPlaysRow.holds Tryz.pinned (OpenSpec.ofChange headPlaysSpec)

/-- ITS FALSE NEIGHBOUR: 'it returns false'. Refute it at one input. -/
def headPlaysWrong : ChangeSpec := { name := "headPlays", fn := fun _ => fun
  | [d1, d2] => { results := [.lit (.bool false)], args := [d1, d2] }
  | _ => none }
def HeadPlaysWrongFalsely : Prop := headPlaysRow.holds Tryz.pinned (OpenSpec.ofChange headPlaysWrong)

/-- 'tidepolelaw23.HeadVoid': WHATEVER THE INPUT: true; the input reads as it did. -/
def headVoidSpec : ChangeSpec := { name := "headVoid", fn := fun _ => fun
  | [d1, d2, d3] => { results := [.lit (.bool true)], args := [d1, d2, d3] }
  | _ => none }
def headVoidRow : OpenClaim := { program := "ytdbmfggipeoklaagreatdoor", sum := "e363f471547420de2b3e2632b54a76fedbaf621a171ed13a0939aa3e366ea457", func := "tidepole/tidepolelaw23.HeadVoid", spec := "headVoid", unfollowed := true, recurses := true, named := ["tidepole/stamp.classes", "math/bits.deBruijn64tab"], apart := false, laid := [("math/bits.deBruijn64tab", laid_math_bits_deBruijn64tab), ("tidepole/stamp.classes", laid_tidepole_stamp_classes)] }
def HeadVoidSaid : Prop := headVoidRow.holds Tryz.pinned (OpenSpec.ofChange headVoidSpec)

/-- ITS FALSE NEIGHBOUR: 'it returns false'. Refute it at one input. -/
def headVoidWrong : ChangeSpec := { name := "headVoid", fn := fun _ => fun
  | [d1, d2, d3] => { results := [.lit (.bool false)], args := [d1, d2, d3] }
  | _ => none }
def HeadVoidWrongFalsely : Prop := headVoidRow.holds Tryz.pinned (OpenSpec.ofChange headVoidWrong)

/- THE SECOND FORM. 'bulk': how many values and letters a reading holds, each counted each time it is reached (what is shared counts as often as it is met; a slice's spare places count too). A statement '..UptoSaid' is the law's where the arguments, and the package variables that the reading takes, are together of bulk at most 1048576: NARROWER than '..Said'. Prove '..Said' where nothing that the law and all that it calls make is longer than what came in: it says more and counts as full. Else prove '..UptoSaid'. A law counts once. -/
mutual
def uptoBulk {H : Type} : DataW H → Nat
  | .lit (.string bytes) => bytes.length + 1
  | .lit _ => 1
  | .nil => 1
  | .ptr d => uptoBulk d + 1
  | .slice elems spare => uptoBulkAll elems + uptoBulkAll spare + 1
  | .agg parts => uptoBulkAll parts + 1
  | .iface _ d => uptoBulk d + 1
  | .map entries => uptoBulkEntries entries + 1
  | .held _ => 1
def uptoBulkAll {H : Type} : List (DataW H) → Nat
  | [] => 0
  | d :: r => uptoBulk d + uptoBulkAll r
def uptoBulkEntries {H : Type} : List (Lit × DataW H) → Nat
  | [] => 0
  | x :: r => uptoBulkEntry x + uptoBulkEntries r
def uptoBulkEntry {H : Type} : Lit × DataW H → Nat
  | (.string bytes, d) => bytes.length + uptoBulk d + 1
  | (_, d) => uptoBulk d + 1
 end
def uptoSmall : (H : Type) → List (DataW H) → Bool := fun _ ds => decide (uptoBulkAll ds ≤ 1048576)
def OpenSpec.upto (s : _root_.Go.ChangeSpec) : _root_.Go.OpenSpec := { _root_.Go.OpenSpec.ofChange s with cond := some uptoSmall }

/-- 'tidepolelaw23.HeadSleeps', WHERE WHAT IT READS IS OF BULK AT MOST 1048576: true; the input reads as it did. -/
def headSleepsUptoRow : OpenClaim := { program := "ytdbmfggipeoklaagreatdoor", sum := "e363f471547420de2b3e2632b54a76fedbaf621a171ed13a0939aa3e366ea457", func := "tidepole/tidepolelaw23.HeadSleeps", spec := "headSleeps", unfollowed := true, recurses := true, named := ["tidepole/stamp.classes", "math/bits.deBruijn64tab"], apart := false, laid := [("math/bits.deBruijn64tab", laid_math_bits_deBruijn64tab), ("tidepole/stamp.classes", laid_tidepole_stamp_classes)], narrowed := true }
def HeadSleepsUptoSaid : Prop := headSleepsUptoRow.holds Tryz.pinned (OpenSpec.upto headSleepsSpec)

/-- 'tidepolelaw23.HeadDays', WHERE WHAT IT READS IS OF BULK AT MOST 1048576: true; the input reads as it did. -/
def headDaysUptoRow : OpenClaim := { program := "ytdbmfggipeoklaagreatdoor", sum := "e363f471547420de2b3e2632b54a76fedbaf621a171ed13a0939aa3e366ea457", func := "tidepole/tidepolelaw23.HeadDays", spec := "headDays", unfollowed := true, recurses := true, named := ["tidepole/stamp.classes", "math/bits.deBruijn64tab"], apart := false, laid := [("math/bits.deBruijn64tab", laid_math_bits_deBruijn64tab), ("tidepole/stamp.classes", laid_tidepole_stamp_classes)], narrowed := true }
def HeadDaysUptoSaid : Prop := headDaysUptoRow.holds Tryz.pinned (OpenSpec.upto headDaysSpec)

/-- 'tidepolelaw23.HeadLong', WHERE WHAT IT READS IS OF BULK AT MOST 1048576: true; the input reads as it did. -/
def headLongUptoRow : OpenClaim := { program := "ytdbmfggipeoklaagreatdoor", sum := "e363f471547420de2b3e2632b54a76fedbaf621a171ed13a0939aa3e366ea457", func := "tidepole/tidepolelaw23.HeadLong", spec := "headLong", unfollowed := true, recurses := true, named := ["tidepole/stamp.classes", "math/bits.deBruijn64tab"], apart := false, laid := [("math/bits.deBruijn64tab", laid_math_bits_deBruijn64tab), ("tidepole/stamp.classes", laid_tidepole_stamp_classes)], narrowed := true }
def HeadLongUptoSaid : Prop := headLongUptoRow.holds Tryz.pinned (OpenSpec.upto headLongSpec)

/-- 'tidepolelaw23.HeadPlays', WHERE WHAT IT READS IS OF BULK AT MOST 1048576: true; the input reads as it did. -/
def headPlaysUptoRow : OpenClaim := { program := "ytdbmfggipeoklaagreatdoor", sum := "e363f471547420de2b3e2632b54a76fedbaf621a171ed13a0939aa3e366ea457", func := "tidepole/tidepolelaw23.HeadPlays", spec := "headPlays", unfollowed := true, recurses := true, named := ["tidepole/stamp.classes", "math/bits.deBruijn64tab"], apart := false, laid := [("math/bits.deBruijn64tab", laid_math_bits_deBruijn64tab), ("tidepole/stamp.classes", laid_tidepole_stamp_classes)], narrowed := true }
def HeadPlaysUptoSaid : Prop := headPlaysUptoRow.holds Tryz.pinned (OpenSpec.upto headPlaysSpec)

/-- 'tidepolelaw23.HeadVoid', WHERE WHAT IT READS IS OF BULK AT MOST 1048576: true; the input reads as it did. -/
def headVoidUptoRow : OpenClaim := { program := "ytdbmfggipeoklaagreatdoor", sum := "e363f471547420de2b3e2632b54a76fedbaf621a171ed13a0939aa3e366ea457", func := "tidepole/tidepolelaw23.HeadVoid", spec := "headVoid", unfollowed := true, recurses := true, named := ["tidepole/stamp.classes", "math/bits.deBruijn64tab"], apart := false, laid := [("math/bits.deBruijn64tab", laid_math_bits_deBruijn64tab), ("tidepole/stamp.classes", laid_tidepole_stamp_classes)], narrowed := true }
def HeadVoidUptoSaid : Prop := headVoidUptoRow.holds Tryz.pinned (OpenSpec.upto headVoidSpec)

end Rows
end Go.Proofs.YtdbmfggipeoklaaGreatDoor
