/- 'crc.step', whatever the number: what it answers; and its answer in all of FS. -/
import Derived.ProofKit
import Derived.Test.YtdbmfggipeoklaaGreatDoorRows
import Derived.Test.YtdbmfggipeoklaaGreatDoorFv
import Derived.Test.YtdbmfggipeoklaaGreatDoorFq
set_option autoImplicit false
namespace Go.Proofs.YtdbmfggipeoklaaGreatDoor.headVoid
open Go.FS Go.RowKit
theorem namedB : (Tryz.prog.funcs.toList.all fun fn => !(fn.body.isSome && fn.name == "runtime.NumGoroutine")) = true := by kernel_rfl
theorem named : Named Tryz.prog := by
  intro f fn hf hb
  have := List.all_eq_true.1 namedB fn (List.mem_of_getElem? (by simpa using hf))
  rw [hb] at this
  simpa using this
theorem follows : Tryz.prog.follows .mixedOrders = true := by kernel_rfl
def ints (k : IntKind) (l : List Int) : Array Value := (l.map fun n => Value.int k n).toArray
def classes : Array Value := ints .i64 [0, 1, 0, 1, 1, 7, 2, 1, 12, 3, 1, 20, 4, 0, 48]
def bruijn : Array Value := ints .u8 [0, 1, 56, 2, 57, 49, 28, 3, 61, 58, 42, 50, 38, 29, 17, 4, 62, 47, 59, 36, 45, 43, 51, 22, 53, 39, 33, 30, 24, 18, 12, 5, 63, 55, 48, 27, 60, 41, 37, 16, 46, 35, 44, 21, 52, 32, 23, 11, 54, 26, 40, 15, 34, 20, 31, 10, 25, 14, 19, 9, 13, 8, 7, 6]
/-- What the tables hold. -/
def tabs : Nat → Option (Array Value)
  | 0 => some classes
  | 1 => some bruijn
  | _ => none
abbrev TH : HeapI := TrG tabs
theorem tabs_flat : ∀ g cs, TH.glob g = some cs → cs.toList.all flat1 = true := by
  intro g cs h
  match g, h with
  | 0, h => injection h with h; subst h; exact (show _ = true by kernel_rfl)
  | 1, h => injection h with h; subst h; exact (show _ = true by kernel_rfl)
  | n + 2, h => cases h
def An : Ann TH := { i := noI, N := 1000000, row := fun f => Nat.beq f 138, cut := fun _ => none }

/-- One bit of the sum. -/
def andU (a b : Int) : Int := IntKind.wrap .u32 (BitVec.ofInt 32 a &&& BitVec.ofInt 32 b).toNat
def xorU (a b : Int) : Int := IntKind.wrap .u32 (BitVec.ofInt 32 a ^^^ BitVec.ofInt 32 b).toNat
def step1 (c : Int) : Int := xorU (c.fdiv (2 ^ 1)) (andU (IntKind.wrap .u32 (0 - andU c 1)) 2197175160)
def step8 (c : Int) : Int := step1 (step1 (step1 (step1 (step1 (step1 (step1 (step1 c)))))))
set_option maxRecDepth 1000000 in
theorem step_run (c : Int) : valsL (callD Tryz.prog An 60 (.fn 154) [.int .u32 c] emptyS) = some [.int .u32 (step8 c)] := by kernel_rfl
noncomputable def crcI {H : HeapI} (args : List Value) (s : St H) : Option (Value × St H) :=
  match args with
  | [.int .u32 c] => forceI (step8 c) fun d => some (.int .u32 d, s)
  | _ => none
noncomputable def I1 {H : HeapI} : Intr H := fun f => bif Nat.beq f 154 then some crcI else none
theorem I1_ok {H : HeapI} (hg : H.glob = tabs) : IOk Tryz.prog (I1 : Intr H) := by
  intro f i h args s v s' hi E w args' hW hA
  by_cases e : f = 154
  · subst e
    have h : some crcI = some i := h
    injection h with h
    subst h
    unfold crcI at hi
    split at hi
    · rename_i c
      rw [forceI_eq] at hi
      injection hi with hi
      injection hi with h1 h2
      subst h1 h2
      obtain ⟨L, hL, hall⟩ := valsL_one (step_run c)
      exact pure_ok (A := An) hg.symm (by rw [hg]; exact tabs_flat) emptyS rfl (fun i => Tr.get_leaf i) noI_ok named follows (by rfl) (by rfl) hL hall hW hA
    · cases hi
  · have h : (bif Nat.beq f 154 then some crcI else none) = some i := h
    rw [beq_no e] at h; cases h
end Go.Proofs.YtdbmfggipeoklaaGreatDoor.headVoid
