/- Whatever the input, 'tidepolelaw15.SymFull' answers true and leaves its arguments as they were. No condition. -/
import Derived.Test.YtmhmbmogodofeaaCYo
import Derived.Test.YtmhmbmogodofeaaWY
import Derived.WalkKit
import Derived.OpenShut
import Derived.ShutString
import Derived.ChangeOld
import Derived.Below
import Derived.SizedLaws
set_option autoImplicit false
namespace Go.Proofs.Ytmhmbmogodofeaa.symFull
open Go.ChangeShapes Go.WideShapes Go.ChangeAt Go.RowKit Go.FS
set_option linter.unusedVariables false
theorem own : ownKnob Try.prog.godebug = none := by kernel_rfl
theorem laidOut : laidOutB Try.prog = true := by kernel_rfl
theorem namedB : (Try.prog.funcs.toList.all fun fn => !(fn.body.isSome && fn.name == "runtime.NumGoroutine")) = true := by kernel_rfl
theorem named : Named Try.prog := by
  intro f fn hf hb
  have := List.all_eq_true.1 namedB fn (List.mem_of_getElem? (by simpa using hf))
  rw [hb] at this
  simpa using this
theorem follows : Try.prog.follows .mixedOrders = true := by kernel_rfl
theorem noG (W : World) : ∀ g cs, S.HP.glob g = some cs → GlbRel (Env0 W) g cs := fun g cs h => by cases h
theorem iok : IOk Try.prog S.AB.i := by
  intro f i h
  by_cases e : f = 30
  · subst e
    have h : some yes = some i := h
    injection h with h
    subst h
    exact yes_ok (H := S.HP) (A := S.Aw) rfl (fun g cs h => by cases h) emptyS rfl (fun i => Tr.get_leaf i) T.iY_ok named follows (fn := Try.f30) (by kernel_rfl) (by kernel_rfl) S.works
  · have h : (bif Nat.beq f 30 then some yes else T.iY f) = some i := h
    rw [beq_no e] at h; exact T.iY_ok f i h
theorem map_of_all {α : Type} {enc : α → List Value} : ∀ {els : List (List Value)}, (∀ el ∈ els, ∃ r, el = enc r) → ∃ L : List α, els = L.map enc
  | [], _ => ⟨[], rfl⟩
  | e :: els, h => by
    obtain ⟨r, hr⟩ := h e (List.mem_cons_self ..)
    obtain ⟨L, hL⟩ := map_of_all fun x hx => h x (List.mem_cons_of_mem _ hx)
    exact ⟨r :: L, by rw [hr, hL]; rfl⟩
section shapes
set_option maxRecDepth 100000
open S
theorem sh_str {f : Nat} {t : TypeId} {cs : List Value} (hu : Try.prog.underlying t = some .string) (h : Shaped Try.prog (f + 1) t cs) : ∃ b, cs = [.string b] := by
  unfold Shaped at h; rw [hu] at h
  obtain ⟨n, hn, _⟩ := h
  exact ⟨n, hn⟩
theorem tx_arg {v : Value} (h : ArgOk Try.prog 8 45 v) : ∃ l : List Str, v = sl tx 0 l := by
  obtain ⟨els, rfl, _, hall⟩ := arg_slice u45 h
  have : ∀ el ∈ els, ∃ b : Str, el = tx b := fun el hel => by
    obtain ⟨b, hb⟩ := sh_str u9 (hall el hel).2
    exact ⟨b.data.toList, by rw [hb]; show [Value.string b] = [encStr _]; rw [str_mk rfl]⟩
  obtain ⟨L, rfl⟩ := map_of_all (enc := tx) this
  exact ⟨L, rfl⟩
theorem by_arg {v : Value} (h : ArgOk Try.prog 8 35 v) : ∃ b : List UInt8, v = sl by' 0 b := by
  obtain ⟨els, rfl, _, hall⟩ := arg_slice u35 h
  have : ∀ el ∈ els, ∃ b : UInt8, el = by' b := fun el hel => by
    obtain ⟨_, hs⟩ := hall el hel
    unfold Shaped at hs
    rw [u5] at hs
    obtain ⟨n, hn, h1, h2⟩ := hs
    have e1 : IntKind.u8.min = 0 := by decide
    have e2 : IntKind.u8.max = 255 := by decide
    rw [e1] at h1; rw [e2] at h2
    refine ⟨UInt8.ofNat n.toNat, ?_⟩
    rw [hn]
    show [Value.int .u8 n] = [Value.int .u8 (((UInt8.ofNat n.toNat).toNat : Nat) : Int)]
    rw [ofNat_toNat (by omega), Int.toNat_of_nonneg h1]
  obtain ⟨L, rfl⟩ := map_of_all (enc := by') this
  exact ⟨L, rfl⟩
end shapes
theorem main (args : List Value) (h : ArgsOk Try.prog 8 Try.f10.params.toList args) : ∃ n, allTrue (callD Try.prog S.AB (n + 1) (.fn 10) args emptyF) = true := by
  have hp : Try.f10.params.toList = [3] := by kernel_rfl
  rw [hp] at h
  obtain ⟨x, l, rfl, h1, h⟩ := args_cons h
  have h := args_nil h
  subst h
  obtain ⟨b, rfl, _, _⟩ := arg_int S.u3 h1
  obtain ⟨s', e⟩ := S.run10 (n := 0) emptyF b
  exact ⟨8, by rw [e]; rfl⟩

set_option maxRecDepth 100000 in
theorem lifted (os : Os) (started : os.Started) (H : Type) (enc : TypeId × Value → H) :
    ReturnsInHanded {} Try.checked os 10 .any (Rows.symFullSpec.pre6 enc Try.prog Try.f10 Rows.symFullRow.domain false) (Rows.symFullSpec.post enc Try.prog Try.f10 false true false false) := by
  refine returnsInHanded_of_change_sized (C := Try.checked) own started (by kernel_rfl) Try.func10
    (ChangeSpec.witness6 (enc := enc) (C := Try.checked) false ⟨#[], #[.int .i64 0], []⟩ 8 (by kernel_rfl) (by kernel_rfl) (by kernel_rfl) (by kernel_rfl)) ?_
  intro W base args ds gs before hval0 hW hcnd hsz0 _
  have hval : ∀ (j : Nat) t v, Try.f10.params.toList[j]? = some t → args[j]? = some v → Value.okWide Try.prog W .any base t v := fun j t v h => hval0 j t v (by simpa using h)
  have hW' := hW
  obtain ⟨p, q, hA0, hV, rfl, hfz, hnd⟩ := hW
  have hA : DataW.TrodAll enc Try.prog W 0 (fun _ => true) true Try.f10.params.toList args.toList ds p := hA0
  obtain ⟨rfl, rfl⟩ := trodVars_none hV
  have hlen := trod_len hA
  refine (law_calls (A := S.AB) emptyF rfl (fun i => rfl) iok named follows (fn := Try.f10) (by kernel_rfl) (by kernel_rfl) 8 (by kernel_rfl) main (noG W) hA hval).mono fun e W' ⟨he, bel⟩ => ?_
  subst he
  have hb := back_args laidOut bel hA (by kernel_rfl)
  clear hA hA0 hval hval0 hsz0
  match ds, hlen, hb with
  | [d1], _, hb => exact ⟨_, rfl, _, _, _, [], _, [], hW', trodAll_mk1 (shut_bool Try.underlying4 _), hb, rfl, bel.frame _, fun h => by cases h⟩
theorem over : Rows.symFullRow.holds Try.pinned (OpenSpec.ofChange Rows.symFullSpec) :=
  OpenClaim.holds_of_wide 10 Try.f10 rfl rfl rfl rfl rfl rfl rfl ⟨rfl, rfl, rfl, rfl, rfl⟩ rfl rfl rfl rfl rfl (by kernel_rfl) Try.func10 (by kernel_rfl)
    (of_decide_eq_true (by kernel_rfl)) (by unfold Func.isWrapper; first | (rw [if_pos (by decide +kernel)]; kernel_rfl) | (rw [if_neg (by decide +kernel)]; exact ⟨rfl, rfl⟩))
    (fun os started H enc _ => lifted os started H enc)
theorem proved : Rows.SymFullSaid := over
#print axioms proved
end Go.Proofs.Ytmhmbmogodofeaa.symFull
