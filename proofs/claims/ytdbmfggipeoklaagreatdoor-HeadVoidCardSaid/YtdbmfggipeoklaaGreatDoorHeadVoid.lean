/- Whatever the number, the sample and the day, 'tidepolelaw23.HeadVoid' answers true and leaves its arguments as they were; the package-level tables hold what the program's text lays (the card). -/
import Derived.Test.YtdbmfggipeoklaaGreatDoorHeadVoidWorks
import Derived.Test.YtdbmfggipeoklaaGreatDoorCards
import Derived.Test.YtdbmfggipeoklaaGreatDoorTie
import Derived.WalkKit
import Derived.OpenShut
import Derived.ShutString
import Derived.ChangeOld
import Derived.Below
import Derived.SizedLaws
import Derived.Deep.DeepHandedRow
set_option autoImplicit false
namespace Go.Proofs.YtdbmfggipeoklaaGreatDoor.headVoid
open Go.ChangeShapes Go.WideShapes Go.ChangeAt Go.RowKit Go.FS
set_option linter.unusedVariables false
theorem own : ownKnob Tryz.prog.godebug = none := by kernel_rfl
theorem laidOut : laidOutB Tryz.prog = true := by kernel_rfl
noncomputable def I2 : Intr TH := fun f => bif Nat.beq f 8 then some yes else none
noncomputable def A2 : Ann TH := { i := I2, N := 1000000, row := fun f => Nat.beq f 138, cut := fun _ => none }
theorem I2_ok : IOk Tryz.prog I2 := by
  intro f i h
  by_cases e : f = 8
  · subst e
    have h : some yes = some i := h
    injection h with h
    subst h
    exact yes_ok (A := Aw) rfl tabs_flat emptyS rfl (fun i => Tr.get_leaf i) (I1_ok rfl) named follows (fn := Tryz.f8) (by kernel_rfl) (by kernel_rfl) works
  · have h : (bif Nat.beq f 8 then some yes else none) = some i := h
    rw [beq_no e] at h; cases h
set_option maxRecDepth 1000000 in
theorem run (id a b day : Int) : allTrue (callD Tryz.prog A2 60 (.fn 7) [.int .u64 id, .agg #[.int .i64 a, .int .u64 b], .int .i64 day] emptyS) = true := by kernel_rfl
set_option maxRecDepth 100000 in
theorem sample_arg {v : Value} (h : ArgOk Tryz.prog 8 28 v) : ∃ a b, v = .agg #[.int .i64 a, .int .u64 b] := by
  obtain ⟨cs, rfl, hlen, hf⟩ := arg_struct Tryz.underlying28 h
  have hl : cs.toList.length = 2 := by rw [hlen]; kernel_rfl
  have h1 := hf _ (List.mem_cons_self ..)
  have h2 := hf _ (List.mem_cons_of_mem _ (List.mem_cons_self ..))
  have c3 : Tryz.prog.cellsOf 3 = 1 := by kernel_rfl
  have c26 : Tryz.prog.cellsOf 26 = 1 := by kernel_rfl
  unfold Shaped at h1 h2
  simp only [Tryz.underlying3, Tryz.underlying26, c3, c26] at h1 h2
  obtain ⟨a, ha, _⟩ := h1
  obtain ⟨b, hb, _⟩ := h2
  refine ⟨a, b, ?_⟩
  rcases cs with ⟨l⟩
  match l, hl with
  | [x, y], _ =>
    simp only [List.drop_zero, List.take_succ_cons, List.take_zero, List.drop_succ_cons, List.cons.injEq, and_true] at ha hb
    rw [ha, hb]
theorem main (args : List Value) (h : ArgsOk Tryz.prog 8 Tryz.f7.params.toList args) : ∃ n, allTrue (callD Tryz.prog A2 (n + 1) (.fn 7) args emptyS) = true := by
  have hp : Tryz.f7.params.toList = [26, 28, 3] := by kernel_rfl
  rw [hp] at h
  obtain ⟨x, l, rfl, h1, h⟩ := args_cons h
  obtain ⟨y, l, rfl, h2, h⟩ := args_cons h
  obtain ⟨z, l, rfl, h3, h⟩ := args_cons h
  have h := args_nil h
  subst h
  obtain ⟨id, rfl, _⟩ := arg_int Tryz.underlying26 h1
  obtain ⟨a, b, rfl⟩ := sample_arg h2
  obtain ⟨day, rfl, _⟩ := arg_int Tryz.underlying3 h3
  exact ⟨59, run id a b day⟩
/-- What the row's list gives. -/
theorem glb {W : World} (h : laidMetH Tryz.prog Rows.headVoidRow.laid W) : ∀ g cs, TH.glob g = some cs → GlbRel (Env0 W) g cs := by
  have h : laidMet Tryz.prog Rows.headVoidRow.laid W := h
  intro g cs hg
  match g, hg with
  | 0, hg =>
    injection hg with hg
    subst hg
    exact glb_of_laid h (name := "tidepole/stamp.classes") (d := Rows.laid_tidepole_stamp_classes) (List.mem_cons_of_mem _ (List.mem_cons_self ..)) (t := (Tryz.prog.globals[0]!).type) (by kernel_rfl) (by kernel_rfl) 5 5 (by kernel_rfl) (by kernel_rfl) (by kernel_rfl)
  | 1, hg =>
    injection hg with hg
    subst hg
    exact glb_of_laid h (name := "math/bits.deBruijn64tab") (d := Rows.laid_math_bits_deBruijn64tab) (List.mem_cons_self ..) (t := (Tryz.prog.globals[1]!).type) (by kernel_rfl) (by kernel_rfl) 5 5 (by kernel_rfl) (by kernel_rfl) (by kernel_rfl)
  | n + 2, hg => cases hg
set_option maxRecDepth 100000 in
theorem contract (H : Type) (enc : TypeId × Value → H) (W : World) (base : Nat) (args : Array Value) (ds gs : List (DataW H)) (before : List MemPlace)
    (hval : ∀ (j : Nat) t v, Tryz.f7.params[j]? = some t → args[j]? = some v → Value.okWide Tryz.prog W .any base t v)
    (hW : DataW.Whole enc Tryz.prog Tryz.f7.params.toList Rows.headVoidSpec.vars false W args.toList ds gs before) (hL : laidMetH Tryz.prog Rows.headVoidRow.laid W) :
    Calls Tryz.prog 7 args W fun e W' => ∃ v, e = .returned v ∧ Rows.headVoidSpec.post enc Tryz.prog Tryz.f7 false true false false W args v W' := by
  have hval2 : ∀ (j : Nat) t v, Tryz.f7.params.toList[j]? = some t → args[j]? = some v → Value.okWide Tryz.prog W .any base t v := fun j t v h => hval j t v (by simpa using h)
  have hW' := hW
  obtain ⟨p, q, hA0, hV, rfl, hfz, hnd⟩ := hW
  have hA : DataW.TrodAll enc Tryz.prog W 0 (fun _ => true) true Tryz.f7.params.toList args.toList ds p := hA0
  obtain ⟨rfl, rfl⟩ := trodVars_none hV
  have hlen := trod_len hA
  refine (law_calls (A := A2) emptyS rfl (fun i => Tr.get_leaf i) I2_ok named follows (fn := Tryz.f7) (by kernel_rfl) (by kernel_rfl) 8 (by kernel_rfl) main (glb hL) hA hval2).mono fun e W' ⟨he, bel⟩ => ?_
  subst he
  have hb := back_args laidOut bel hA (by kernel_rfl)
  clear hA hA0 hval hval2
  match ds, hlen, hb with
  | [d1, d2, d3], _, hb => exact ⟨_, rfl, _, _, _, [], _, [], hW', trodAll_mk1 (shut_bool Tryz.underlying4 _), hb, rfl, bel.frame _, fun h => by cases h⟩
def layIn (c : Array Value) : Obj → Obj
  | .cells _ t frozen => .cells c t frozen
  | o => o
/-- A world for the witness: the settled one, the tables holding what their initialisers lay. -/
noncomputable def laidWorld (os : Os) : World :=
  { World.holding Tryz.prog os ⟨#[], #[], []⟩ with heap := ((World.holding Tryz.prog os ⟨#[], #[], []⟩).heap.modify 0 (layIn classes)).modify 1 (layIn bruijn) }
def wargs : Array Value := #[.int .u64 0, .agg #[.int .i64 0, .int .u64 0], .int .i64 0]
theorem laid_met (os : Os) : laidMet Tryz.prog Rows.headVoidRow.laid ((laidWorld os).forCall (fun _ _ => 0) ⟨#[], wargs, []⟩).memory :=
  laidMet_of_run' 8 (by kernel_rfl) (by kernel_rfl)
theorem reads (os : Os) {H : Type} (enc : TypeId × Value → H) : ∃ ds places, DataW.whole enc Tryz.prog ((laidWorld os).forCall (fun _ _ => 0) ⟨#[], wargs, []⟩).memory Tryz.f7.params.toList Rows.headVoidSpec.vars false wargs.toList 8 = some (ds, [], places) :=
  ⟨[.lit (.int .u64 0), .agg [.lit (.int .i64 0), .lit (.int .u64 0)], .lit (.int .i64 0)], [], by kernel_rfl⟩
set_option maxRecDepth 100000 in
theorem lifted (os : Os) (started : os.Started) (H : Type) (enc : TypeId × Value → H) (F : Stop.Interp) :
    ReturnsInHanded {} Tryz.checked os 7 .any ((OpenSpec.ofChange Rows.headVoidSpec).preRow enc Tryz.prog Tryz.f7 Rows.headVoidRow.domain false Rows.headVoidRow.laid) (((OpenSpec.ofChange Rows.headVoidSpec).at F).post enc Tryz.prog Tryz.f7 false true false false) := by
  obtain ⟨ds, places, hx⟩ := reads os enc
  refine returnsInHanded_of_row (C := Tryz.checked) (s := OpenSpec.ofChange Rows.headVoidSpec) own started (by kernel_rfl) Tryz.func7
    (witness_row_at (enc := enc) (C := Tryz.checked) false (laidWorld os) wargs rfl (by kernel_rfl) (by kernel_rfl) (by kernel_rfl)
      (OpenSpec.preRow_of_cond 8 hx (by kernel_rfl) (fun k hk => by cases hk) (by kernel_rfl) (laid_met os))) ?_
  intro W base args ds gs before hval hW _ _ _ hL _ _
  exact contract H enc W base args ds gs before hval hW hL
theorem said : Rows.HeadVoidSaid :=
  OpenClaim.holds_of_cond 7 Tryz.f7 rfl rfl rfl rfl rfl rfl rfl ⟨rfl, rfl, rfl, rfl, rfl⟩ rfl rfl rfl rfl rfl (by kernel_rfl) Tryz.func7 (by kernel_rfl)
    (of_decide_eq_true (by kernel_rfl)) (by unfold Func.isWrapper; first | (rw [if_pos (by decide +kernel)]; kernel_rfl) | (rw [if_neg (by decide +kernel)]; exact ⟨rfl, rfl⟩))
    (fun os started H enc _ F => by rw [OpenClaim.pre_eq_preRow]; exact lifted os started H enc F)
/-- No parameter wants a stand-in; the program's own looks are off: what the card asks. -/
theorem plain (f : FuncId) (fn : Func) (hf : Tryz.pinned.checked.prog.funcNamed "tidepole/tidepolelaw23.HeadVoid" = some f) (hfn : Tryz.pinned.checked.prog.funcs[f]? = some fn) :
    false = Tryz.pinned.checked.prog.looks [] ∧ ∀ (j : Nat) t, fn.params[j]? = some t → Tryz.pinned.checked.prog.wantsStandIn t = false := by
  obtain rfl : f = 7 := Option.some.inj ((show Tryz.prog.funcNamed "tidepole/tidepolelaw23.HeadVoid" = some 7 by kernel_rfl).symm.trans hf) |>.symm
  obtain rfl : fn = Tryz.f7 := (Option.some.inj (Tryz.func7.symm.trans hfn)).symm
  refine ⟨by kernel_rfl, fun j t ht => ?_⟩
  have hp : Tryz.f7.params = #[26, 28, 3] := by kernel_rfl
  rw [hp] at ht
  have : t = 26 ∨ t = 28 ∨ t = 3 := by simpa using Array.mem_of_getElem? ht
  rcases this with rfl | rfl | rfl
  · exact (show Tryz.prog.wantsStandIn 26 = false by kernel_rfl)
  · exact (show Tryz.prog.wantsStandIn 28 = false by kernel_rfl)
  · exact (show Tryz.prog.wantsStandIn 3 = false by kernel_rfl)
theorem card : Rows.HeadVoidCardSaid :=
  Claim7.holds_tied_plain_at .later [] _ _ _ _ said (fun _ h => by cases h) (by kernel_rfl) (fun _ h => by cases h) headVoid_row_tie rfl ⟨rfl, rfl⟩ (by kernel_rfl) rfl plain (by kernel_rfl)
#print axioms card
end Go.Proofs.YtdbmfggipeoklaaGreatDoor.headVoid
