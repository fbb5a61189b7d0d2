/- Whatever the number and the labels, 'tidepolelaw22.RelabVoid' answers true and leaves its arguments as they were. No condition. -/
import Derived.Test.YtcndhccodiinoaaGreatRelabVoidWorks
import Derived.WalkKit
import Derived.OpenShut
import Derived.ShutString
import Derived.ChangeOld
import Derived.Below
import Derived.SizedLaws
set_option autoImplicit false
namespace Go.Proofs.YtcndhccodiinoaaGreat.relabVoid
open Go.ChangeShapes Go.WideShapes Go.ChangeAt Go.RowKit Go.FS
open Go.ChangeMaps (open_string shut_string)
set_option linter.unusedVariables false
theorem own : ownKnob Tryz.prog.godebug = none := by kernel_rfl
theorem laidOut : laidOutB Tryz.prog = true := by kernel_rfl
theorem namedB : (Tryz.prog.funcs.toList.all fun fn => !(fn.body.isSome && fn.name == "runtime.NumGoroutine")) = true := by kernel_rfl
theorem named : Named Tryz.prog := by
  intro f fn hf hb
  have := List.all_eq_true.1 namedB fn (List.mem_of_getElem? (by simpa using hf))
  rw [hb] at this
  simpa using this
def A2 : Ann TrH := { i := fun f => bif Nat.beq f 7 then some yes else none, N := 1000000, row := fun f => Nat.beq f 75, cut := fun _ => none }
theorem follows : Tryz.prog.follows .mixedOrders = true := by kernel_rfl
theorem noG (W : World) : ∀ g cs, TrH.glob g = some cs → GlbRel (Env0 W) g cs := fun g cs h => by cases h
theorem f7_at : ∃ fn, Tryz.prog.funcs[7]? = some fn ∧ fn.body.isSome = true := ⟨Tryz.f7, by kernel_rfl, by kernel_rfl⟩
theorem iok : IOk Tryz.prog A2.i := by
  intro f i h
  by_cases e : f = 7
  · subst e
    have h : some yes = some i := h
    injection h with h
    subst h
    obtain ⟨fn, h1, h2⟩ := f7_at
    exact yes_ok (A := An) rfl (fun g cs h => by cases h) emptyS rfl (fun i => Tr.get_leaf i) noI_ok named follows h1 h2 works
  · have h : (bif Nat.beq f 7 then some yes else none) = some i := h
    rw [beq_no e] at h; cases h
set_option maxRecDepth 1000000 in
theorem run (id : Int) (els : List (List Value)) : (callD Tryz.prog A2 60 (.fn 5) [.int .u64 id, fz 0 els] emptyS).map (·.1) = some (.bool true) := by kernel_rfl
theorem main (args : List Value) (h : ArgsOk Tryz.prog 8 Tryz.f5.params.toList args) : ∃ n s', callD Tryz.prog A2 (n + 1) (.fn 5) args emptyS = some (.bool true, s') := by
  have hp : Tryz.f5.params.toList = [33, 36] := by kernel_rfl
  rw [hp] at h
  obtain ⟨a, l, rfl, h1, h⟩ := args_cons h
  obtain ⟨b, l, rfl, h2, h⟩ := args_cons h
  have h := args_nil h
  subst h
  obtain ⟨id, rfl, _⟩ := arg_int Tryz.underlying33 h1
  obtain ⟨els, rfl, _⟩ := arg_slice Tryz.underlying36 h2
  exact some_answer (run id els)
set_option maxRecDepth 100000 in
theorem lifted (os : Os) (started : os.Started) (H : Type) (enc : TypeId × Value → H) :
    ReturnsInHanded {} Tryz.checked os 5 .any (Rows.relabVoidSpec.pre6 enc Tryz.prog Tryz.f5 Rows.relabVoidRow.domain false) (Rows.relabVoidSpec.post enc Tryz.prog Tryz.f5 false true false false) := by
  refine returnsInHanded_of_change_sized (C := Tryz.checked) own started (by kernel_rfl) Tryz.func5
    (ChangeSpec.witness6 (enc := enc) (C := Tryz.checked) false ⟨#[], #[.int .u64 0, .slice none 0 0], []⟩ 8 (by kernel_rfl) (by kernel_rfl) (by kernel_rfl) (by kernel_rfl)) ?_
  intro W base args ds gs before hval0 hW hcnd hsz0 _
  have hval : ∀ (j : Nat) t v, Tryz.f5.params.toList[j]? = some t → args[j]? = some v → Value.okWide Tryz.prog W .any base t v := fun j t v h => hval0 j t v (by simpa using h)
  have hW' := hW
  obtain ⟨p, q, hA0, hV, rfl, hfz, hnd⟩ := hW
  have hA : DataW.TrodAll enc Tryz.prog W 0 (fun _ => true) true Tryz.f5.params.toList args.toList ds p := hA0
  obtain ⟨rfl, rfl⟩ := trodVars_none hV
  have hlen := trod_len hA
  have hA2 : DataW.TrodAll enc Tryz.prog W 0 (fun _ => true) true Tryz.f5.params.toList args.toList (ds ++ []) p := by rw [List.append_nil]; exact hA
  refine (law_calls (A := A2) emptyS rfl (fun i => Tr.get_leaf i) iok named follows (fn := Tryz.f5) (by kernel_rfl) (by kernel_rfl) 8 (by kernel_rfl) main (noG W) hA hval).mono fun e W' ⟨he, bel⟩ => ?_
  subst he
  have hb := back_args laidOut bel hA (by kernel_rfl)
  clear hA hA0 hA2 hval hval0 hsz0
  match ds, hlen, hb with
  | [d1, d2], _, hb => exact ⟨_, rfl, _, _, _, [], _, [], hW', trodAll_mk1 (shut_bool Tryz.underlying4 _), hb, rfl, bel.frame _, fun h => by cases h⟩
theorem over : Rows.relabVoidRow.holds Tryz.pinned (OpenSpec.ofChange Rows.relabVoidSpec) :=
  OpenClaim.holds_of_wide 5 Tryz.f5 rfl rfl rfl rfl rfl rfl rfl ⟨rfl, rfl, rfl, rfl, rfl⟩ rfl rfl rfl rfl rfl (by kernel_rfl) Tryz.func5 (by kernel_rfl)
    (of_decide_eq_true (by kernel_rfl)) (by unfold Func.isWrapper; first | (rw [if_pos (by decide +kernel)]; kernel_rfl) | (rw [if_neg (by decide +kernel)]; exact ⟨rfl, rfl⟩))
    (fun os started H enc _ => lifted os started H enc)
theorem proved : Rows.RelabVoidSaid := over
#print axioms proved
end Go.Proofs.YtcndhccodiinoaaGreat.relabVoid
