/- Whatever the input, 'tidepolelaw04.LabelTurns' answers true and leaves its arguments as they were. No condition. -/
import Derived.Test.YtmhmbmogodofeaaCWh
import Derived.Test.YtmhmbmogodofeaaWL
import Derived.WalkKit
import Derived.OpenShut
import Derived.ShutString
import Derived.ChangeOld
import Derived.Below
import Derived.SizedLaws
set_option autoImplicit false
namespace Go.Proofs.Ytmhmbmogodofeaa.labelTurns
open Go.ChangeShapes Go.WideShapes Go.ChangeAt Go.RowKit Go.FS
set_option linter.unusedVariables false
theorem own : ownKnob Try.prog.godebug = none := by kernel_rfl
theorem laidOut : laidOutB Try.prog = true := by kernel_rfl
theorem namedB : (Try.prog.funcs.toList.all fun fn => !(fn.body.isSome && fn.name == "runtime.NumGoroutine")) = true := by kernel_rfl
theorem named : Named Try.prog := by
  intro f fn hf hb
  have := List.all_eq_true.1 namedB fn (List.mem_of_getElem? (by simpa using hf))
  rw [hb] at this
  simpa using this
theorem follows : Try.prog.follows .mixedOrders = true := by kernel_rfl
theorem noG (W : World) : ∀ g cs, S.HP.glob g = some cs → GlbRel (Env0 W) g cs := fun g cs h => by cases h
theorem iok : IOk Try.prog S.AB.i := by
  intro f i h
  by_cases e : f = 17
  · subst e
    have h : some yes = some i := h
    injection h with h
    subst h
    exact yes_ok (H := S.HP) (A := S.Aw) rfl (fun g cs h => by cases h) emptyS rfl (fun i => Tr.get_leaf i) T.iL_ok named follows (fn := Try.f17) (by kernel_rfl) (by kernel_rfl) S.works
  · have h : (bif Nat.beq f 17 then some yes else T.iW f) = some i := h
    rw [beq_no e] at h; exact T.iW_ok f i h
theorem map_of_all {α : Type} {enc : α → List Value} : ∀ {els : List (List Value)}, (∀ el ∈ els, ∃ r, el = enc r) → ∃ L : List α, els = L.map enc
  | [], _ => ⟨[], rfl⟩
  | e :: els, h => by
    obtain ⟨r, hr⟩ := h e (List.mem_cons_self ..)
    obtain ⟨L, hL⟩ := map_of_all fun x hx => h x (List.mem_cons_of_mem _ hx)
    exact ⟨r :: L, by rw [hr, hL]; rfl⟩
section shapes
set_option maxRecDepth 100000
open S
theorem sh_str {f : Nat} {t : TypeId} {cs : List Value} (hu : Try.prog.underlying t = some .string) (h : Shaped Try.prog (f + 1) t cs) : ∃ b, cs = [.string b] := by
  unfold Shaped at h; rw [hu] at h
  obtain ⟨n, hn, _⟩ := h
  exact ⟨n, hn⟩
theorem sh_fields {f : Nat} {t : TypeId} {fs : Array Field} {cs : List Value} (hu : Try.prog.underlying t = some (.struct fs)) (h : Shaped Try.prog (f + 1) t cs) : ∀ x ∈ fs.toList, Shaped Try.prog f x.type ((cs.drop x.offset).take (Try.prog.cellsOf x.type)) := by
  unfold Shaped at h; rw [hu] at h
  exact h.2
theorem c9' : Try.prog.cellsOf 9 = 1 := by kernel_rfl
theorem c106' : Try.prog.cellsOf 106 = 2 := by kernel_rfl
theorem lab_arg {f : Nat} (el : List Value) (h : el.length = Try.prog.cellsOf 106 ∧ Shaped Try.prog (f + 2) 106 el) : ∃ r, el = lab r := by
  obtain ⟨hl, h⟩ := h
  rw [c106'] at hl
  have h := sh_fields u106 h
  have h3 := h _ (List.mem_cons_self ..)
  have h4 := h _ (List.mem_cons_of_mem _ (List.mem_cons_self ..))
  obtain ⟨a, ha⟩ := sh_str u9 h3
  obtain ⟨b, hb⟩ := sh_str u9 h4
  match el, hl with
  | [x, y], _ =>
    simp only [c9', List.drop_zero, List.take_succ_cons, List.take_zero, List.drop_succ_cons, List.cons.injEq, and_true] at ha hb
    exact ⟨(a, b), by rw [ha, hb]; rfl⟩
theorem labs_arg {v : Value} (h : ArgOk Try.prog 8 23 v) : ∃ l : List Lab, v = sl lab 0 l := by
  obtain ⟨els, rfl, _, hall⟩ := arg_slice u23 h
  obtain ⟨L, rfl⟩ := map_of_all (enc := lab) fun el hel => lab_arg el (hall el hel)
  exact ⟨L, rfl⟩
end shapes
theorem main (args : List Value) (h : ArgsOk Try.prog 8 Try.f6.params.toList args) : ∃ n, allTrue (callD Try.prog S.AB (n + 1) (.fn 6) args emptyF) = true := by
  have hp : Try.f6.params.toList = [23, 9, 9] := by kernel_rfl
  rw [hp] at h
  obtain ⟨x, l, rfl, h1, h⟩ := args_cons h
  obtain ⟨y, l, rfl, h2, h⟩ := args_cons h
  obtain ⟨z, l, rfl, h3, h⟩ := args_cons h
  have h := args_nil h
  subst h
  obtain ⟨a, rfl⟩ := labs_arg h1
  obtain ⟨b, rfl, _⟩ := arg_string S.u9 h2
  obtain ⟨c, rfl, _⟩ := arg_string S.u9 h3
  obtain ⟨s', e⟩ := S.run6 (n := 0) (m := 0) emptyF a b c
  exact ⟨6, by rw [e]; rfl⟩

set_option maxRecDepth 100000 in
theorem lifted (os : Os) (started : os.Started) (H : Type) (enc : TypeId × Value → H) :
    ReturnsInHanded {} Try.checked os 6 .any (Rows.labelTurnsSpec.pre6 enc Try.prog Try.f6 Rows.labelTurnsRow.domain false) (Rows.labelTurnsSpec.post enc Try.prog Try.f6 false true false false) := by
  refine returnsInHanded_of_change_sized (C := Try.checked) own started (by kernel_rfl) Try.func6
    (ChangeSpec.witness6 (enc := enc) (C := Try.checked) false ⟨#[], #[.slice none 0 0, .string ⟨#[]⟩, .string ⟨#[]⟩], []⟩ 8 (by kernel_rfl) (by kernel_rfl) (by kernel_rfl) (by kernel_rfl)) ?_
  intro W base args ds gs before hval0 hW hcnd hsz0 _
  have hval : ∀ (j : Nat) t v, Try.f6.params.toList[j]? = some t → args[j]? = some v → Value.okWide Try.prog W .any base t v := fun j t v h => hval0 j t v (by simpa using h)
  have hW' := hW
  obtain ⟨p, q, hA0, hV, rfl, hfz, hnd⟩ := hW
  have hA : DataW.TrodAll enc Try.prog W 0 (fun _ => true) true Try.f6.params.toList args.toList ds p := hA0
  obtain ⟨rfl, rfl⟩ := trodVars_none hV
  have hlen := trod_len hA
  refine (law_calls (A := S.AB) emptyF rfl (fun i => rfl) iok named follows (fn := Try.f6) (by kernel_rfl) (by kernel_rfl) 8 (by kernel_rfl) main (noG W) hA hval).mono fun e W' ⟨he, bel⟩ => ?_
  subst he
  have hb := back_args laidOut bel hA (by kernel_rfl)
  clear hA hA0 hval hval0 hsz0
  match ds, hlen, hb with
  | [d1, d2, d3], _, hb => exact ⟨_, rfl, _, _, _, [], _, [], hW', trodAll_mk1 (shut_bool Try.underlying4 _), hb, rfl, bel.frame _, fun h => by cases h⟩
theorem over : Rows.labelTurnsRow.holds Try.pinned (OpenSpec.ofChange Rows.labelTurnsSpec) :=
  OpenClaim.holds_of_wide 6 Try.f6 rfl rfl rfl rfl rfl rfl rfl ⟨rfl, rfl, rfl, rfl, rfl⟩ rfl rfl rfl rfl rfl (by kernel_rfl) Try.func6 (by kernel_rfl)
    (of_decide_eq_true (by kernel_rfl)) (by unfold Func.isWrapper; first | (rw [if_pos (by decide +kernel)]; kernel_rfl) | (rw [if_neg (by decide +kernel)]; exact ⟨rfl, rfl⟩))
    (fun os started H enc _ => lifted os started H enc)
theorem proved : Rows.LabelTurnsSaid := over
#print axioms proved
end Go.Proofs.Ytmhmbmogodofeaa.labelTurns
