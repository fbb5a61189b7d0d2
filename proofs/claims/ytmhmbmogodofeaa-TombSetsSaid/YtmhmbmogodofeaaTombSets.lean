/- Whatever the ranges and the time, 'tidepolelaw21.TombSets' answers true and leaves its arguments as they were. No condition. -/
import Derived.Test.YtmhmbmogodofeaaC21e
import Derived.Test.YtmhmbmogodofeaaW21
import Derived.WalkKit
import Derived.OpenShut
import Derived.ShutString
import Derived.ChangeOld
import Derived.Below
import Derived.SizedLaws
set_option autoImplicit false
namespace Go.Proofs.Ytmhmbmogodofeaa.tombSets
open Go.ChangeShapes Go.WideShapes Go.ChangeAt Go.RowKit Go.FS
set_option linter.unusedVariables false
open S (AT IT HP Rg rg)
theorem own : ownKnob Try.prog.godebug = none := by kernel_rfl
theorem laidOut : laidOutB Try.prog = true := by kernel_rfl
theorem namedB : (Try.prog.funcs.toList.all fun fn => !(fn.body.isSome && fn.name == "runtime.NumGoroutine")) = true := by kernel_rfl
theorem named : Named Try.prog := by
  intro f fn hf hb
  have := List.all_eq_true.1 namedB fn (List.mem_of_getElem? (by simpa using hf))
  rw [hb] at this
  simpa using this
theorem follows : Try.prog.follows .mixedOrders = true := by kernel_rfl
theorem noG (W : World) : ∀ g cs, HP.glob g = some cs → GlbRel (Env0 W) g cs := fun g cs h => by cases h
theorem iok : IOk Try.prog AT.i := by
  intro f i h
  by_cases e : f = 45
  · subst e
    have h : some yes = some i := h
    injection h with h
    subst h
    exact yes_ok (H := HP) (A := S.Aw) rfl (fun g cs h => by cases h) emptyS rfl (fun i => Tr.get_leaf i) noI_ok named follows (fn := Try.f45) (by kernel_rfl) (by kernel_rfl) S.works
  · have h : (bif Nat.beq f 45 then some yes else none) = some i := h
    rw [beq_no e] at h; cases h
set_option maxRecDepth 100000 in
theorem rg_arg {el : List Value} (h : el.length = Try.prog.cellsOf 69 ∧ Shaped Try.prog 7 69 el) : ∃ r, el = rg r := by
  obtain ⟨h1, h2⟩ := h
  have c69 : Try.prog.cellsOf 69 = 2 := by kernel_rfl
  have c3 : Try.prog.cellsOf 3 = 1 := by kernel_rfl
  rw [c69] at h1
  unfold Shaped at h2
  rw [S.u69] at h2
  have h3 := h2.2 _ (List.mem_cons_self ..)
  have h4 := h2.2 _ (List.mem_cons_of_mem _ (List.mem_cons_self ..))
  unfold Shaped at h3 h4
  simp only [S.u3, c3] at h3 h4
  obtain ⟨a, ha, _⟩ := h3
  obtain ⟨b, hb, _⟩ := h4
  match el, h1 with
  | [x, y], _ =>
    simp only [List.drop_zero, List.take_succ_cons, List.take_zero, List.drop_succ_cons, List.cons.injEq, and_true] at ha hb
    exact ⟨(a, b), by rw [ha, hb]; rfl⟩
theorem map_of_all {α : Type} {enc : α → List Value} : ∀ {els : List (List Value)}, (∀ el ∈ els, ∃ r, el = enc r) → ∃ L : List α, els = L.map enc
  | [], _ => ⟨[], rfl⟩
  | e :: els, h => by
    obtain ⟨r, hr⟩ := h e (List.mem_cons_self ..)
    obtain ⟨L, hL⟩ := map_of_all fun x hx => h x (List.mem_cons_of_mem _ hx)
    exact ⟨r :: L, by rw [hr, hL]; rfl⟩
theorem main (args : List Value) (h : ArgsOk Try.prog 8 Try.f14.params.toList args) : ∃ n, allTrue (callD Try.prog AT (n + 1) (.fn 14) args emptyF) = true := by
  have hp : Try.f14.params.toList = [80, 3] := by kernel_rfl
  rw [hp] at h
  obtain ⟨x, l, rfl, h1, h⟩ := args_cons h
  obtain ⟨y, l, rfl, h2, h⟩ := args_cons h
  have h := args_nil h
  subst h
  obtain ⟨els, rfl, _, hels⟩ := arg_slice S.u80 h1
  obtain ⟨a, rfl, _⟩ := arg_int S.u3 h2
  obtain ⟨L, rfl⟩ := map_of_all fun el he => rg_arg (hels el he)
  obtain ⟨s', e⟩ := S.run14 (n := 0) emptyF L a
  have e : callD Try.prog AT 7 (.fn 14) [fz 0 (L.map rg), .int .i64 a] emptyF = some [(.bool true, s')] := e
  exact ⟨6, by rw [e]; rfl⟩
set_option maxRecDepth 100000 in
theorem lifted (os : Os) (started : os.Started) (H : Type) (enc : TypeId × Value → H) :
    ReturnsInHanded {} Try.checked os 14 .any (Rows.tombSetsSpec.pre6 enc Try.prog Try.f14 Rows.tombSetsRow.domain false) (Rows.tombSetsSpec.post enc Try.prog Try.f14 false true false false) := by
  refine returnsInHanded_of_change_sized (C := Try.checked) own started (by kernel_rfl) Try.func14
    (ChangeSpec.witness6 (enc := enc) (C := Try.checked) false ⟨#[], #[.slice none 0 0, .int .i64 0], []⟩ 8 (by kernel_rfl) (by kernel_rfl) (by kernel_rfl) (by kernel_rfl)) ?_
  intro W base args ds gs before hval0 hW hcnd hsz0 _
  have hval : ∀ (j : Nat) t v, Try.f14.params.toList[j]? = some t → args[j]? = some v → Value.okWide Try.prog W .any base t v := fun j t v h => hval0 j t v (by simpa using h)
  have hW' := hW
  obtain ⟨p, q, hA0, hV, rfl, hfz, hnd⟩ := hW
  have hA : DataW.TrodAll enc Try.prog W 0 (fun _ => true) true Try.f14.params.toList args.toList ds p := hA0
  obtain ⟨rfl, rfl⟩ := trodVars_none hV
  have hlen := trod_len hA
  refine (law_calls (A := AT) emptyF rfl (fun i => rfl) iok named follows (fn := Try.f14) (by kernel_rfl) (by kernel_rfl) 8 (by kernel_rfl) main (noG W) hA hval).mono fun e W' ⟨he, bel⟩ => ?_
  subst he
  have hb := back_args laidOut bel hA (by kernel_rfl)
  clear hA hA0 hval hval0 hsz0
  match ds, hlen, hb with
  | [d1, d2], _, hb => exact ⟨_, rfl, _, _, _, [], _, [], hW', trodAll_mk1 (shut_bool Try.underlying4 _), hb, rfl, bel.frame _, fun h => by cases h⟩
theorem over : Rows.tombSetsRow.holds Try.pinned (OpenSpec.ofChange Rows.tombSetsSpec) :=
  OpenClaim.holds_of_wide 14 Try.f14 rfl rfl rfl rfl rfl rfl rfl ⟨rfl, rfl, rfl, rfl, rfl⟩ rfl rfl rfl rfl rfl (by kernel_rfl) Try.func14 (by kernel_rfl)
    (of_decide_eq_true (by kernel_rfl)) (by unfold Func.isWrapper; first | (rw [if_pos (by decide +kernel)]; kernel_rfl) | (rw [if_neg (by decide +kernel)]; exact ⟨rfl, rfl⟩))
    (fun os started H enc _ => lifted os started H enc)
theorem proved : Rows.TombSetsSaid := over
#print axioms proved
end Go.Proofs.Ytmhmbmogodofeaa.tombSets
