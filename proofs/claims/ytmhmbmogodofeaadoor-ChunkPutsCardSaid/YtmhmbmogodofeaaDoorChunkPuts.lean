import Derived.Test.YtmhmbmogodofeaaDoorMI
import Derived.Test.YtmhmbmogodofeaaDoorWD
import Derived.Test.YtmhmbmogodofeaaDoorFq
import Derived.Test.YtmhmbmogodofeaaDoorCards
import Derived.Test.YtmhmbmogodofeaaDoorTie
import Derived.WalkKit
import Derived.OpenShut
import Derived.ShutString
import Derived.ChangeOld
import Derived.Below
import Derived.SizedLaws
import Derived.Deep.DeepHandedRow
/- Whatever the input, 'tidepolelaw08.ChunkPuts' answers true and leaves its arguments as they were; the package-level tables hold what the program's text lays (the card). No condition. -/
set_option autoImplicit false
namespace Go.Proofs.YtmhmbmogodofeaaDoor.chunkPuts
open Go.ChangeShapes Go.WideShapes Go.ChangeAt Go.RowKit Go.FS
set_option linter.unusedVariables false
theorem own : ownKnob Tryd.prog.godebug = none := by kernel_rfl
theorem laidOut : laidOutB Tryd.prog = true := by kernel_rfl
theorem iok : IOk Tryd.prog S.AB.i := by
  intro f i h
  by_cases e : f = 13
  · subst e
    have h : some yes = some i := h
    injection h with h
    subst h
    exact yes_ok (H := S.HP) (A := S.Aw) rfl S.tabs_flat emptyS rfl (fun i => Tr.get_leaf i) noI_ok S.named S.follows (fn := Tryd.f13) (by kernel_rfl) (by kernel_rfl) S.works
  · have h : (bif Nat.beq f 13 then some yes else none) = some i := h
    rw [beq_no e] at h; cases h
theorem map_of_all {α : Type} {enc : α → List Value} : ∀ {els : List (List Value)}, (∀ el ∈ els, ∃ r, el = enc r) → ∃ L : List α, els = L.map enc
  | [], _ => ⟨[], rfl⟩
  | e :: els, h => by
    obtain ⟨r, hr⟩ := h e (List.mem_cons_self ..)
    obtain ⟨L, hL⟩ := map_of_all fun x hx => h x (List.mem_cons_of_mem _ hx)
    exact ⟨r :: L, by rw [hr, hL]; rfl⟩
set_option maxRecDepth 100000
open S
theorem se_arg {v : Value} (h : ArgOk Tryd.prog 8 24 v) : ∃ l : List (Int × Nat), v = sl se 0 l ∧ ∀ a ∈ l, a.2 < 2 ^ 64 := by
  obtain ⟨els, rfl, _, hall⟩ := arg_slice u24 h
  have hc0 : Tryd.prog.cellsOf 40 = 2 := by kernel_rfl
  have hc1 : Tryd.prog.cellsOf 3 = 1 := by kernel_rfl
  have hc2 : Tryd.prog.cellsOf 38 = 1 := by kernel_rfl
  have : ∀ el ∈ els, ∃ b : {x : Int × Nat // x.2 < 2 ^ 64}, el = se b.1 := fun el hel => by
    obtain ⟨hl, hs⟩ := hall el hel
    rw [hc0] at hl
    unfold Shaped at hs
    rw [u40] at hs
    obtain ⟨_, hs⟩ := hs
    have s1 := hs _ (List.mem_cons_self ..)
    have s2 := hs _ (List.mem_cons_of_mem _ (List.mem_cons_self ..))
    match el, hl with
    | [x, y], _ =>
      simp only [hc1, hc2] at s1 s2
      unfold Shaped at s1 s2
      simp only [u3, u38] at s1 s2
      obtain ⟨a, ha, _⟩ := s1
      obtain ⟨b, hb, h1, h2⟩ := s2
      have ha : [x] = [Value.int .i64 a] := ha
      have hb : [y] = [Value.int .u64 b] := hb
      have e1 : IntKind.u64.min = 0 := by decide
      have e2 : IntKind.u64.max = 18446744073709551615 := by decide
      rw [e1] at h1; rw [e2] at h2
      injection ha with ha _
      injection hb with hb _
      refine ⟨⟨(a, b.toNat), by show b.toNat < 2 ^ 64; omega⟩, ?_⟩
      rw [ha, hb]
      show _ = [Value.int .i64 a, Value.int .u64 ((b.toNat : Nat) : Int)]
      rw [Int.toNat_of_nonneg h1]
  obtain ⟨L, rfl⟩ := map_of_all (enc := fun b : {x : Int × Nat // x.2 < 2 ^ 64} => se b.1) this
  refine ⟨L.map (·.1), ?_, fun x hx => ?_⟩
  · unfold sl
    rw [List.map_map]
    rfl
  · obtain ⟨y, _, rfl⟩ := List.mem_map.1 hx
    exact y.2
theorem main (args : List Value) (h : ArgsOk Tryd.prog 8 Tryd.f5.params.toList args) : ∃ n, allTrue (callD Tryd.prog S.AB (n + 1) (.fn 5) args emptyF) = true := by
  have hp : Tryd.f5.params.toList = [24] := by kernel_rfl
  rw [hp] at h
  obtain ⟨x, l, rfl, h1, h⟩ := args_cons h
  have h := args_nil h
  subst h
  obtain ⟨b, rfl, hb⟩ := se_arg h1
  obtain ⟨s', e⟩ := S.run5 (n := 0) (m := 0) emptyF b hb
  exact ⟨10, by rw [e]; rfl⟩

/-- What the row's list gives. -/
theorem glb {W : World} (h : laidMetH Tryd.prog Rows.chunkPutsRow.laid W) : ∀ g cs, S.HP.glob g = some cs → GlbRel (Env0 W) g cs := by
  have h : laidMet Tryd.prog Rows.chunkPutsRow.laid W := h
  intro g cs hg
  match g, hg with
  | 0, hg =>
    injection hg with hg
    subst hg
    exact glb_of_laid h (name := "tidepole/stamp.classes") (d := Rows.laid_tidepole_stamp_classes) (List.mem_cons_of_mem _ (List.mem_cons_self ..)) (t := (Tryd.prog.globals[0]!).type) (by kernel_rfl) (by kernel_rfl) 5 5 (by kernel_rfl) (by kernel_rfl) (by kernel_rfl)
  | 1, hg =>
    injection hg with hg
    subst hg
    exact glb_of_laid h (name := "math/bits.deBruijn64tab") (d := Rows.laid_math_bits_deBruijn64tab) (List.mem_cons_self ..) (t := (Tryd.prog.globals[1]!).type) (by kernel_rfl) (by kernel_rfl) 5 5 (by kernel_rfl) (by kernel_rfl) (by kernel_rfl)
  | n + 2, hg => cases hg
set_option maxRecDepth 100000 in
theorem contract (H : Type) (enc : TypeId × Value → H) (W : World) (base : Nat) (args : Array Value) (ds gs : List (DataW H)) (before : List MemPlace)
    (hval : ∀ (j : Nat) t v, Tryd.f5.params[j]? = some t → args[j]? = some v → Value.okWide Tryd.prog W .any base t v)
    (hW : DataW.Whole enc Tryd.prog Tryd.f5.params.toList Rows.chunkPutsSpec.vars false W args.toList ds gs before) (hL : laidMetH Tryd.prog Rows.chunkPutsRow.laid W) :
    Calls Tryd.prog 5 args W fun e W' => ∃ v, e = .returned v ∧ Rows.chunkPutsSpec.post enc Tryd.prog Tryd.f5 false true false false W args v W' := by
  have hval2 : ∀ (j : Nat) t v, Tryd.f5.params.toList[j]? = some t → args[j]? = some v → Value.okWide Tryd.prog W .any base t v := fun j t v h => hval j t v (by simpa using h)
  have hW' := hW
  obtain ⟨p, q, hA0, hV, rfl, hfz, hnd⟩ := hW
  have hA : DataW.TrodAll enc Tryd.prog W 0 (fun _ => true) true Tryd.f5.params.toList args.toList ds p := hA0
  obtain ⟨rfl, rfl⟩ := trodVars_none hV
  have hlen := trod_len hA
  refine (law_calls (A := S.AB) emptyF rfl (fun i => rfl) iok S.named S.follows (fn := Tryd.f5) (by kernel_rfl) (by kernel_rfl) 8 (by kernel_rfl) main (glb hL) hA hval2).mono fun e W' ⟨he, bel⟩ => ?_
  subst he
  have hb := back_args laidOut bel hA (by kernel_rfl)
  clear hA hA0 hval hval2
  match ds, hlen, hb with
  | [d1], _, hb => exact ⟨_, rfl, _, _, _, [], _, [], hW', trodAll_mk1 (shut_bool Tryd.underlying4 _), hb, rfl, bel.frame _, fun h => by cases h⟩
def layIn (c : Array Value) : Obj → Obj
  | .cells _ t frozen => .cells c t frozen
  | o => o
/-- A world for the witness: the settled one, the tables holding what their initialisers lay. -/
noncomputable def laidWorld (os : Os) : World :=
  { World.holding Tryd.prog os ⟨#[], #[], []⟩ with heap := ((World.holding Tryd.prog os ⟨#[], #[], []⟩).heap.modify 0 (layIn S.classes)).modify 1 (layIn S.bruijn) }
def wargs : Array Value := #[.slice none 0 0]
theorem laid_met (os : Os) : laidMet Tryd.prog Rows.chunkPutsRow.laid ((laidWorld os).forCall (fun _ _ => 0) ⟨#[], wargs, []⟩).memory :=
  laidMet_of_run' 8 (by kernel_rfl) (by kernel_rfl)
theorem reads (os : Os) {H : Type} (enc : TypeId × Value → H) : ∃ ds places, DataW.whole enc Tryd.prog ((laidWorld os).forCall (fun _ _ => 0) ⟨#[], wargs, []⟩).memory Tryd.f5.params.toList Rows.chunkPutsSpec.vars false wargs.toList 8 = some (ds, [], places) :=
  ⟨[.nil], [], by kernel_rfl⟩
set_option maxRecDepth 100000 in
theorem lifted (os : Os) (started : os.Started) (H : Type) (enc : TypeId × Value → H) (F : Stop.Interp) :
    ReturnsInHanded {} Tryd.checked os 5 .any ((OpenSpec.ofChange Rows.chunkPutsSpec).preRow enc Tryd.prog Tryd.f5 Rows.chunkPutsRow.domain false Rows.chunkPutsRow.laid) (((OpenSpec.ofChange Rows.chunkPutsSpec).at F).post enc Tryd.prog Tryd.f5 false true false false) := by
  obtain ⟨ds, places, hx⟩ := reads os enc
  refine returnsInHanded_of_row (C := Tryd.checked) (s := OpenSpec.ofChange Rows.chunkPutsSpec) own started (by kernel_rfl) Tryd.func5
    (witness_row_at (enc := enc) (C := Tryd.checked) false (laidWorld os) wargs rfl (by kernel_rfl) (by kernel_rfl) (by kernel_rfl)
      (OpenSpec.preRow_of_cond 8 hx (by kernel_rfl) (fun k hk => by cases hk) (by kernel_rfl) (laid_met os))) ?_
  intro W base args ds gs before hval hW _ _ _ hL _ _
  exact contract H enc W base args ds gs before hval hW hL
theorem said : Rows.ChunkPutsSaid :=
  OpenClaim.holds_of_cond 5 Tryd.f5 rfl rfl rfl rfl rfl rfl rfl ⟨rfl, rfl, rfl, rfl, rfl⟩ rfl rfl rfl rfl rfl (by kernel_rfl) Tryd.func5 (by kernel_rfl)
    (of_decide_eq_true (by kernel_rfl)) (by unfold Func.isWrapper; first | (rw [if_pos (by decide +kernel)]; kernel_rfl) | (rw [if_neg (by decide +kernel)]; exact ⟨rfl, rfl⟩))
    (fun os started H enc _ F => by rw [OpenClaim.pre_eq_preRow]; exact lifted os started H enc F)
/-- No parameter wants a stand-in; the program's own looks are off: what the card asks. -/
theorem plain (f : FuncId) (fn : Func) (hf : Tryd.pinned.checked.prog.funcNamed "tidepole/tidepolelaw08.ChunkPuts" = some f) (hfn : Tryd.pinned.checked.prog.funcs[f]? = some fn) :
    false = Tryd.pinned.checked.prog.looks [] ∧ ∀ (j : Nat) t, fn.params[j]? = some t → Tryd.pinned.checked.prog.wantsStandIn t = false := by
  obtain rfl : f = 5 := Option.some.inj ((show Tryd.prog.funcNamed "tidepole/tidepolelaw08.ChunkPuts" = some 5 by kernel_rfl).symm.trans hf) |>.symm
  obtain rfl : fn = Tryd.f5 := (Option.some.inj (Tryd.func5.symm.trans hfn)).symm
  refine ⟨by kernel_rfl, fun j t ht => ?_⟩
  have hp : Tryd.f5.params = #[24] := by kernel_rfl
  rw [hp] at ht
  have : t = 24 := by simpa using Array.mem_of_getElem? ht
  rcases this with rfl
  · exact (show Tryd.prog.wantsStandIn 24 = false by kernel_rfl)
theorem card : Rows.ChunkPutsCardSaid :=
  Claim7.holds_tied_plain_at .later [] _ _ _ _ said (fun _ h => by cases h) (by kernel_rfl) (fun _ h => by cases h) chunkPuts_row_tie rfl ⟨rfl, rfl⟩ (by kernel_rfl) rfl plain (by kernel_rfl)
#print axioms card
end Go.Proofs.YtmhmbmogodofeaaDoor.chunkPuts
