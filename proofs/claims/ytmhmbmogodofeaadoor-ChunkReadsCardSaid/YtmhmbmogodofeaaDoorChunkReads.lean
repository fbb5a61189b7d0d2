import Derived.Test.YtmhmbmogodofeaaDoorMK
import Derived.Test.YtmhmbmogodofeaaDoorWD
import Derived.Test.YtmhmbmogodofeaaDoorFq
import Derived.Test.YtmhmbmogodofeaaDoorCards
import Derived.Test.YtmhmbmogodofeaaDoorTie
import Derived.WalkKit
import Derived.OpenShut
import Derived.ShutString
import Derived.ChangeOld
import Derived.Below
import Derived.SizedLaws
import Derived.Deep.DeepHandedRow
/- Whatever the input, 'tidepolelaw08.ChunkReads' answers true and leaves its arguments as they were; the package-level tables hold what the program's text lays (the card). No condition. -/
set_option autoImplicit false
namespace Go.Proofs.YtmhmbmogodofeaaDoor.chunkReads
open Go.ChangeShapes Go.WideShapes Go.ChangeAt Go.RowKit Go.FS
set_option linter.unusedVariables false
theorem own : ownKnob Tryd.prog.godebug = none := by kernel_rfl
theorem laidOut : laidOutB Tryd.prog = true := by kernel_rfl
theorem iok : IOk Tryd.prog S.AB.i := by
  intro f i h
  by_cases e : f = 13
  · subst e
    have h : some yes = some i := h
    injection h with h
    subst h
    exact yes_ok (H := S.HP) (A := S.Aw) rfl S.tabs_flat emptyS rfl (fun i => Tr.get_leaf i) noI_ok S.named S.follows (fn := Tryd.f13) (by kernel_rfl) (by kernel_rfl) S.works
  · have h : (bif Nat.beq f 13 then some yes else none) = some i := h
    rw [beq_no e] at h; cases h
theorem map_of_all {α : Type} {enc : α → List Value} : ∀ {els : List (List Value)}, (∀ el ∈ els, ∃ r, el = enc r) → ∃ L : List α, els = L.map enc
  | [], _ => ⟨[], rfl⟩
  | e :: els, h => by
    obtain ⟨r, hr⟩ := h e (List.mem_cons_self ..)
    obtain ⟨L, hL⟩ := map_of_all fun x hx => h x (List.mem_cons_of_mem _ hx)
    exact ⟨r :: L, by rw [hr, hL]; rfl⟩
set_option maxRecDepth 100000
open S
theorem by_arg {v : Value} (h : ArgOk Tryd.prog 8 22 v) : ∃ b : List UInt8, v = sl by' 0 b := by
  obtain ⟨els, rfl, hl, hall⟩ := arg_slice u22 h
  have : ∀ el ∈ els, ∃ b : UInt8, el = by' b := fun el hel => by
    obtain ⟨_, hs⟩ := hall el hel
    unfold Shaped at hs
    rw [u5] at hs
    obtain ⟨n, hn, h1, h2⟩ := hs
    have e1 : IntKind.u8.min = 0 := by decide
    have e2 : IntKind.u8.max = 255 := by decide
    rw [e1] at h1; rw [e2] at h2
    refine ⟨UInt8.ofNat n.toNat, ?_⟩
    rw [hn]
    show [Value.int .u8 n] = [Value.int .u8 (((UInt8.ofNat n.toNat).toNat : Nat) : Int)]
    rw [ofNat_toNat (by omega), Int.toNat_of_nonneg h1]
  obtain ⟨L, rfl⟩ := map_of_all (enc := by') this
  exact ⟨L, rfl⟩
theorem main (args : List Value) (h : ArgsOk Tryd.prog 8 Tryd.f3.params.toList args) : ∃ n, allTrue (callD Tryd.prog S.AB (n + 1) (.fn 3) args emptyF) = true := by
  have hp : Tryd.f3.params.toList = [22, 3] := by kernel_rfl
  rw [hp] at h
  obtain ⟨x, l, rfl, h1, h⟩ := args_cons h
  obtain ⟨y, l, rfl, h2, h⟩ := args_cons h
  have h := args_nil h
  subst h
  obtain ⟨b, rfl⟩ := by_arg h1
  obtain ⟨a, rfl, _⟩ := arg_int u3 h2
  obtain ⟨s', e⟩ := S.run3 (n := 0) (m := 0) emptyF b a
  exact ⟨12, by rw [e]; rfl⟩

/-- What the row's list gives. -/
theorem glb {W : World} (h : laidMetH Tryd.prog Rows.chunkReadsRow.laid W) : ∀ g cs, S.HP.glob g = some cs → GlbRel (Env0 W) g cs := by
  have h : laidMet Tryd.prog Rows.chunkReadsRow.laid W := h
  intro g cs hg
  match g, hg with
  | 0, hg =>
    injection hg with hg
    subst hg
    exact glb_of_laid h (name := "tidepole/stamp.classes") (d := Rows.laid_tidepole_stamp_classes) (List.mem_cons_of_mem _ (List.mem_cons_self ..)) (t := (Tryd.prog.globals[0]!).type) (by kernel_rfl) (by kernel_rfl) 5 5 (by kernel_rfl) (by kernel_rfl) (by kernel_rfl)
  | 1, hg =>
    injection hg with hg
    subst hg
    exact glb_of_laid h (name := "math/bits.deBruijn64tab") (d := Rows.laid_math_bits_deBruijn64tab) (List.mem_cons_self ..) (t := (Tryd.prog.globals[1]!).type) (by kernel_rfl) (by kernel_rfl) 5 5 (by kernel_rfl) (by kernel_rfl) (by kernel_rfl)
  | n + 2, hg => cases hg
set_option maxRecDepth 100000 in
theorem contract (H : Type) (enc : TypeId × Value → H) (W : World) (base : Nat) (args : Array Value) (ds gs : List (DataW H)) (before : List MemPlace)
    (hval : ∀ (j : Nat) t v, Tryd.f3.params[j]? = some t → args[j]? = some v → Value.okWide Tryd.prog W .any base t v)
    (hW : DataW.Whole enc Tryd.prog Tryd.f3.params.toList Rows.chunkReadsSpec.vars false W args.toList ds gs before) (hL : laidMetH Tryd.prog Rows.chunkReadsRow.laid W) :
    Calls Tryd.prog 3 args W fun e W' => ∃ v, e = .returned v ∧ Rows.chunkReadsSpec.post enc Tryd.prog Tryd.f3 false true false false W args v W' := by
  have hval2 : ∀ (j : Nat) t v, Tryd.f3.params.toList[j]? = some t → args[j]? = some v → Value.okWide Tryd.prog W .any base t v := fun j t v h => hval j t v (by simpa using h)
  have hW' := hW
  obtain ⟨p, q, hA0, hV, rfl, hfz, hnd⟩ := hW
  have hA : DataW.TrodAll enc Tryd.prog W 0 (fun _ => true) true Tryd.f3.params.toList args.toList ds p := hA0
  obtain ⟨rfl, rfl⟩ := trodVars_none hV
  have hlen := trod_len hA
  refine (law_calls (A := S.AB) emptyF rfl (fun i => rfl) iok S.named S.follows (fn := Tryd.f3) (by kernel_rfl) (by kernel_rfl) 8 (by kernel_rfl) main (glb hL) hA hval2).mono fun e W' ⟨he, bel⟩ => ?_
  subst he
  have hb := back_args laidOut bel hA (by kernel_rfl)
  clear hA hA0 hval hval2
  match ds, hlen, hb with
  | [d1, d2], _, hb => exact ⟨_, rfl, _, _, _, [], _, [], hW', trodAll_mk1 (shut_bool Tryd.underlying4 _), hb, rfl, bel.frame _, fun h => by cases h⟩
def layIn (c : Array Value) : Obj → Obj
  | .cells _ t frozen => .cells c t frozen
  | o => o
/-- A world for the witness: the settled one, the tables holding what their initialisers lay. -/
noncomputable def laidWorld (os : Os) : World :=
  { World.holding Tryd.prog os ⟨#[], #[], []⟩ with heap := ((World.holding Tryd.prog os ⟨#[], #[], []⟩).heap.modify 0 (layIn S.classes)).modify 1 (layIn S.bruijn) }
def wargs : Array Value := #[.slice none 0 0, .int .i64 0]
theorem laid_met (os : Os) : laidMet Tryd.prog Rows.chunkReadsRow.laid ((laidWorld os).forCall (fun _ _ => 0) ⟨#[], wargs, []⟩).memory :=
  laidMet_of_run' 8 (by kernel_rfl) (by kernel_rfl)
theorem reads (os : Os) {H : Type} (enc : TypeId × Value → H) : ∃ ds places, DataW.whole enc Tryd.prog ((laidWorld os).forCall (fun _ _ => 0) ⟨#[], wargs, []⟩).memory Tryd.f3.params.toList Rows.chunkReadsSpec.vars false wargs.toList 8 = some (ds, [], places) :=
  ⟨[.nil, .lit (.int .i64 0)], [], by kernel_rfl⟩
set_option maxRecDepth 100000 in
theorem lifted (os : Os) (started : os.Started) (H : Type) (enc : TypeId × Value → H) (F : Stop.Interp) :
    ReturnsInHanded {} Tryd.checked os 3 .any ((OpenSpec.ofChange Rows.chunkReadsSpec).preRow enc Tryd.prog Tryd.f3 Rows.chunkReadsRow.domain false Rows.chunkReadsRow.laid) (((OpenSpec.ofChange Rows.chunkReadsSpec).at F).post enc Tryd.prog Tryd.f3 false true false false) := by
  obtain ⟨ds, places, hx⟩ := reads os enc
  refine returnsInHanded_of_row (C := Tryd.checked) (s := OpenSpec.ofChange Rows.chunkReadsSpec) own started (by kernel_rfl) Tryd.func3
    (witness_row_at (enc := enc) (C := Tryd.checked) false (laidWorld os) wargs rfl (by kernel_rfl) (by kernel_rfl) (by kernel_rfl)
      (OpenSpec.preRow_of_cond 8 hx (by kernel_rfl) (fun k hk => by cases hk) (by kernel_rfl) (laid_met os))) ?_
  intro W base args ds gs before hval hW _ _ _ hL _ _
  exact contract H enc W base args ds gs before hval hW hL
theorem said : Rows.ChunkReadsSaid :=
  OpenClaim.holds_of_cond 3 Tryd.f3 rfl rfl rfl rfl rfl rfl rfl ⟨rfl, rfl, rfl, rfl, rfl⟩ rfl rfl rfl rfl rfl (by kernel_rfl) Tryd.func3 (by kernel_rfl)
    (of_decide_eq_true (by kernel_rfl)) (by unfold Func.isWrapper; first | (rw [if_pos (by decide +kernel)]; kernel_rfl) | (rw [if_neg (by decide +kernel)]; exact ⟨rfl, rfl⟩))
    (fun os started H enc _ F => by rw [OpenClaim.pre_eq_preRow]; exact lifted os started H enc F)
/-- No parameter wants a stand-in; the program's own looks are off: what the card asks. -/
theorem plain (f : FuncId) (fn : Func) (hf : Tryd.pinned.checked.prog.funcNamed "tidepole/tidepolelaw08.ChunkReads" = some f) (hfn : Tryd.pinned.checked.prog.funcs[f]? = some fn) :
    false = Tryd.pinned.checked.prog.looks [] ∧ ∀ (j : Nat) t, fn.params[j]? = some t → Tryd.pinned.checked.prog.wantsStandIn t = false := by
  obtain rfl : f = 3 := Option.some.inj ((show Tryd.prog.funcNamed "tidepole/tidepolelaw08.ChunkReads" = some 3 by kernel_rfl).symm.trans hf) |>.symm
  obtain rfl : fn = Tryd.f3 := (Option.some.inj (Tryd.func3.symm.trans hfn)).symm
  refine ⟨by kernel_rfl, fun j t ht => ?_⟩
  have hp : Tryd.f3.params = #[22, 3] := by kernel_rfl
  rw [hp] at ht
  have : t = 22 ∨ t = 3 := by simpa using Array.mem_of_getElem? ht
  rcases this with rfl | rfl
  · exact (show Tryd.prog.wantsStandIn 22 = false by kernel_rfl)
  · exact (show Tryd.prog.wantsStandIn 3 = false by kernel_rfl)
theorem card : Rows.ChunkReadsCardSaid :=
  Claim7.holds_tied_plain_at .later [] _ _ _ _ said (fun _ h => by cases h) (by kernel_rfl) (fun _ h => by cases h) chunkReads_row_tie rfl ⟨rfl, rfl⟩ (by kernel_rfl) rfl plain (by kernel_rfl)
#print axioms card
end Go.Proofs.YtmhmbmogodofeaaDoor.chunkReads
