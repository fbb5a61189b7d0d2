/- Whatever the input, 'tidepolelaw19.RecBack' answers true and leaves its arguments as they were. No condition. -/
import Derived.Test.YtmhmbmogodofeaaCRv
import Derived.Test.YtmhmbmogodofeaaWB
import Derived.WalkKit
import Derived.OpenShut
import Derived.ShutString
import Derived.ChangeOld
import Derived.Below
import Derived.SizedLaws
set_option autoImplicit false
namespace Go.Proofs.Ytmhmbmogodofeaa.recBack
open Go.ChangeShapes Go.WideShapes Go.ChangeAt Go.RowKit Go.FS
set_option linter.unusedVariables false
theorem own : ownKnob Try.prog.godebug = none := by kernel_rfl
theorem laidOut : laidOutB Try.prog = true := by kernel_rfl
theorem namedB : (Try.prog.funcs.toList.all fun fn => !(fn.body.isSome && fn.name == "runtime.NumGoroutine")) = true := by kernel_rfl
theorem named : Named Try.prog := by
  intro f fn hf hb
  have := List.all_eq_true.1 namedB fn (List.mem_of_getElem? (by simpa using hf))
  rw [hb] at this
  simpa using this
theorem follows : Try.prog.follows .mixedOrders = true := by kernel_rfl
theorem noG (W : World) : ∀ g cs, S.HP.glob g = some cs → GlbRel (Env0 W) g cs := fun g cs h => by cases h
theorem iok : IOk Try.prog S.AB.i := by
  intro f i h
  by_cases e : f = 42
  · subst e
    have h : some yes = some i := h
    injection h with h
    subst h
    exact yes_ok (H := S.HP) (A := S.Aw) rfl (fun g cs h => by cases h) emptyS rfl (fun i => Tr.get_leaf i) noI_ok named follows (fn := Try.f42) (by kernel_rfl) (by kernel_rfl) S.works
  · have h : (bif Nat.beq f 42 then some yes else none) = some i := h
    rw [beq_no e] at h; cases h
theorem map_of_all {α : Type} {enc : α → List Value} : ∀ {els : List (List Value)}, (∀ el ∈ els, ∃ r, el = enc r) → ∃ L : List α, els = L.map enc
  | [], _ => ⟨[], rfl⟩
  | e :: els, h => by
    obtain ⟨r, hr⟩ := h e (List.mem_cons_self ..)
    obtain ⟨L, hL⟩ := map_of_all fun x hx => h x (List.mem_cons_of_mem _ hx)
    exact ⟨r :: L, by rw [hr, hL]; rfl⟩
section shapes
set_option maxRecDepth 100000
open S
theorem sh_int {f : Nat} {t : TypeId} {k : IntKind} {cs : List Value} (hu : Try.prog.underlying t = some (.int k)) (h : Shaped Try.prog (f + 1) t cs) : ∃ n, cs = [.int k n] := by
  unfold Shaped at h; rw [hu] at h
  obtain ⟨n, hn, _⟩ := h
  exact ⟨n, hn⟩
theorem sh_str {f : Nat} {t : TypeId} {cs : List Value} (hu : Try.prog.underlying t = some .string) (h : Shaped Try.prog (f + 1) t cs) : ∃ b, cs = [.string b] := by
  unfold Shaped at h; rw [hu] at h
  obtain ⟨n, hn, _⟩ := h
  exact ⟨n, hn⟩
theorem sh_slice {α : Type} {f : Nat} {t e : TypeId} {enc : α → List Value} {cs : List Value} (hu : Try.prog.underlying t = some (.slice e)) (h : Shaped Try.prog (f + 1) t cs) (he : ∀ el, el.length = Try.prog.cellsOf e ∧ Shaped Try.prog f e el → ∃ r, el = enc r) : ∃ L : List α, cs = [sl enc 0 L] := by
  unfold Shaped at h; rw [hu] at h
  obtain ⟨els, hn, _, hall⟩ := h
  obtain ⟨L, rfl⟩ := map_of_all (enc := enc) fun el hel => he el (hall el hel)
  exact ⟨L, hn⟩
theorem sh_fields {f : Nat} {t : TypeId} {fs : Array Field} {cs : List Value} (hu : Try.prog.underlying t = some (.struct fs)) (h : Shaped Try.prog (f + 1) t cs) : ∀ x ∈ fs.toList, Shaped Try.prog f x.type ((cs.drop x.offset).take (Try.prog.cellsOf x.type)) := by
  unfold Shaped at h; rw [hu] at h
  exact h.2
theorem sh_u64 {f : Nat} {t : TypeId} {cs : List Value} (hu : Try.prog.underlying t = some (.int .u64)) (h : Shaped Try.prog (f + 1) t cs) : ∃ n, cs = [.int .u64 n] ∧ U64 n := by
  unfold Shaped at h; rw [hu] at h
  obtain ⟨n, hn, h1, h2⟩ := h
  have e1 : IntKind.u64.min = 0 := by decide
  have e2 : IntKind.u64.max = 18446744073709551615 := by decide
  rw [e1] at h1; rw [e2] at h2
  exact ⟨n, hn, h1, by omega⟩
theorem map_of_allP {α : Type} {enc : α → List Value} {Pr : α → Prop} : ∀ {els : List (List Value)}, (∀ el ∈ els, ∃ r, el = enc r ∧ Pr r) → ∃ L : List α, els = L.map enc ∧ ∀ x ∈ L, Pr x
  | [], _ => ⟨[], rfl, fun x hx => absurd hx List.not_mem_nil⟩
  | e :: els, h => by
    obtain ⟨r, hr, hp⟩ := h e (List.mem_cons_self ..)
    obtain ⟨L, hL, hQ⟩ := map_of_allP fun x hx => h x (List.mem_cons_of_mem _ hx)
    refine ⟨r :: L, by rw [hr, hL]; rfl, fun x hx => ?_⟩
    rcases List.mem_cons.1 hx with rfl | hx
    · exact hp
    · exact hQ x hx
theorem sh_sliceP {α : Type} {f : Nat} {t e : TypeId} {enc : α → List Value} {Pr : α → Prop} {cs : List Value} (hu : Try.prog.underlying t = some (.slice e)) (h : Shaped Try.prog (f + 1) t cs) (he : ∀ el, el.length = Try.prog.cellsOf e ∧ Shaped Try.prog f e el → ∃ r, el = enc r ∧ Pr r) : ∃ L : List α, cs = [sl enc 0 L] ∧ ∀ x ∈ L, Pr x := by
  unfold Shaped at h; rw [hu] at h
  obtain ⟨els, hn, _, hall⟩ := h
  obtain ⟨L, rfl, hL⟩ := map_of_allP (enc := enc) (Pr := Pr) fun el hel => he el (hall el hel)
  exact ⟨L, hn, hL⟩
theorem c3' : Try.prog.cellsOf 3 = 1 := by kernel_rfl
theorem c9' : Try.prog.cellsOf 9 = 1 := by kernel_rfl
theorem c70' : Try.prog.cellsOf 70 = 1 := by kernel_rfl
theorem c23' : Try.prog.cellsOf 23 = 1 := by kernel_rfl
theorem c65' : Try.prog.cellsOf 65 = 1 := by kernel_rfl
theorem c66' : Try.prog.cellsOf 66 = 1 := by kernel_rfl
theorem c67' : Try.prog.cellsOf 67 = 1 := by kernel_rfl
theorem c69' : Try.prog.cellsOf 69 = 2 := by kernel_rfl
theorem c106' : Try.prog.cellsOf 106 = 2 := by kernel_rfl
theorem c135' : Try.prog.cellsOf 135 = 2 := by kernel_rfl
theorem c142' : Try.prog.cellsOf 142 = 3 := by kernel_rfl
theorem c72' : Try.prog.cellsOf 72 = 7 := by kernel_rfl
theorem u6_arg {f : Nat} (el : List Value) (h : el.length = Try.prog.cellsOf 70 ∧ Shaped Try.prog (f + 1) 70 el) : ∃ r, el = u6 r ∧ U64 r := sh_u64 u70 h.2
theorem rg_sh {f : Nat} {cs : List Value} (hl : cs.length = 2) (h : Shaped Try.prog (f + 2) 69 cs) : ∃ r, cs = rg r := by
  have h := sh_fields u69 h
  have h3 := h _ (List.mem_cons_self ..)
  have h4 := h _ (List.mem_cons_of_mem _ (List.mem_cons_self ..))
  obtain ⟨a, ha⟩ := sh_int u3 h3
  obtain ⟨b, hb⟩ := sh_int u3 h4
  match cs, hl with
  | [x, y], _ =>
    simp only [c3', List.drop_zero, List.take_succ_cons, List.take_zero, List.drop_succ_cons, List.cons.injEq, and_true] at ha hb
    exact ⟨(a, b), by rw [ha, hb]; rfl⟩
theorem lab_arg {f : Nat} (el : List Value) (h : el.length = Try.prog.cellsOf 106 ∧ Shaped Try.prog (f + 2) 106 el) : ∃ r, el = lab r := by
  obtain ⟨hl, h⟩ := h
  rw [c106'] at hl
  have h := sh_fields u106 h
  have h3 := h _ (List.mem_cons_self ..)
  have h4 := h _ (List.mem_cons_of_mem _ (List.mem_cons_self ..))
  obtain ⟨a, ha⟩ := sh_str u9 h3
  obtain ⟨b, hb⟩ := sh_str u9 h4
  match el, hl with
  | [x, y], _ =>
    simp only [c9', List.drop_zero, List.take_succ_cons, List.take_zero, List.drop_succ_cons, List.cons.injEq, and_true] at ha hb
    exact ⟨(a, b), by rw [ha, hb]; rfl⟩
theorem nm_arg {f : Nat} (el : List Value) (h : el.length = Try.prog.cellsOf 135 ∧ Shaped Try.prog (f + 4) 135 el) : ∃ r, el = nm r ∧ U64 r.1 := by
  obtain ⟨hl, h⟩ := h
  rw [c135'] at hl
  have h := sh_fields u135 h
  have h3 := h _ (List.mem_cons_self ..)
  have h4 := h _ (List.mem_cons_of_mem _ (List.mem_cons_self ..))
  obtain ⟨a, ha, hu⟩ := sh_u64 u70 h3
  obtain ⟨b, hb⟩ := sh_slice (enc := lab) u23 h4 lab_arg
  match el, hl with
  | [x, y], _ =>
    simp only [c70', c23', List.drop_zero, List.take_succ_cons, List.take_zero, List.drop_succ_cons, List.cons.injEq, and_true] at ha hb
    exact ⟨(a, 0, b), by rw [ha, hb]; rfl, hu⟩
theorem pt_arg {f : Nat} (el : List Value) (h : el.length = Try.prog.cellsOf 142 ∧ Shaped Try.prog (f + 3) 142 el) : ∃ r, el = pt r ∧ U64 r.1 ∧ U64 r.2.2 := by
  obtain ⟨hl, h⟩ := h
  rw [c142'] at hl
  have h := sh_fields u142 h
  have h3 := h _ (List.mem_cons_self ..)
  have h4 := h _ (List.mem_cons_of_mem _ (List.mem_cons_self ..))
  obtain ⟨a, ha, hu⟩ := sh_u64 u70 h3
  have h5 := sh_fields u140 h4
  have h6 := h5 _ (List.mem_cons_self ..)
  have h7 := h5 _ (List.mem_cons_of_mem _ (List.mem_cons_self ..))
  obtain ⟨b, hb⟩ := sh_int u3 h6
  obtain ⟨c, hc, hu2⟩ := sh_u64 u70 h7
  have c140' : Try.prog.cellsOf 140 = 2 := by kernel_rfl
  match el, hl with
  | [x, y, z], _ =>
    simp only [c70', c3', c140', List.drop_zero, List.take_succ_cons, List.take_zero, List.drop_succ_cons, List.cons.injEq, and_true] at ha hb hc
    exact ⟨(a, b, c), by rw [ha, hb, hc]; rfl, hu, hu2⟩
theorem rec_arg {v : Value} (h : ArgOk Try.prog 8 72 v) : ∃ r, v = .agg (enR r).toArray ∧ (∀ a ∈ r.new, U64 a.1) ∧ (∀ x ∈ r.ids, U64 x) ∧ (∀ p ∈ r.pts, U64 p.1 ∧ U64 p.2.2) ∧ U64 r.n := by
  obtain ⟨cs, rfl, hlen, hf⟩ := arg_struct u72 h
  rw [c72'] at hlen
  have h0 := hf _ (List.mem_cons_self ..)
  have h1 := hf _ (List.mem_cons_of_mem _ (List.mem_cons_self ..))
  have h2 := hf _ (List.mem_cons_of_mem _ (List.mem_cons_of_mem _ (List.mem_cons_self ..)))
  have h3 := hf _ (List.mem_cons_of_mem _ (List.mem_cons_of_mem _ (List.mem_cons_of_mem _ (List.mem_cons_self ..))))
  have h4 := hf _ (List.mem_cons_of_mem _ (List.mem_cons_of_mem _ (List.mem_cons_of_mem _ (List.mem_cons_of_mem _ (List.mem_cons_self ..)))))
  have h5 := hf _ (List.mem_cons_of_mem _ (List.mem_cons_of_mem _ (List.mem_cons_of_mem _ (List.mem_cons_of_mem _ (List.mem_cons_of_mem _ (List.mem_cons_self ..))))))
  obtain ⟨k, hk⟩ := sh_int u3 h0
  obtain ⟨a, ha, ua⟩ := sh_sliceP (enc := nm) (Pr := fun r => U64 r.1) u65 h1 nm_arg
  obtain ⟨b, hb, ub⟩ := sh_sliceP (enc := pt) (Pr := fun r => U64 r.1 ∧ U64 r.2.2) u66 h2 pt_arg
  obtain ⟨c, hc, uc⟩ := sh_sliceP (enc := u6) (Pr := U64) u67 h3 u6_arg
  rcases cs with ⟨l⟩
  match l, hlen with
  | [x0, x1, x2, x3, x4, x5, x6], _ =>
    obtain ⟨d, hd⟩ := rg_sh (by simp [c69']) h4
    obtain ⟨n, hn, un⟩ := sh_u64 u70 h5
    simp only [c3', c65', c66', c67', c69', c70', rg, List.drop_zero, List.take_succ_cons, List.take_zero, List.drop_succ_cons, List.cons.injEq, and_true] at hk ha hb hc hd hn
    refine ⟨⟨k, 0, a, 0, b, 0, c, d, n⟩, ?_, ua, uc, ub, un⟩
    rw [hk, ha, hb, hc, hd.1, hd.2, hn]; rfl
theorem by_arg {v : Value} (h : ArgOk Try.prog 8 35 v) : ∃ b : List UInt8, v = sl by' 0 b := by
  obtain ⟨els, rfl, _, hall⟩ := arg_slice u35 h
  have : ∀ el ∈ els, ∃ b : UInt8, el = by' b := fun el hel => by
    obtain ⟨_, hs⟩ := hall el hel
    unfold Shaped at hs
    rw [u5] at hs
    obtain ⟨n, hn, h1, h2⟩ := hs
    have e1 : IntKind.u8.min = 0 := by decide
    have e2 : IntKind.u8.max = 255 := by decide
    rw [e1] at h1; rw [e2] at h2
    refine ⟨UInt8.ofNat n.toNat, ?_⟩
    rw [hn]
    show [Value.int .u8 n] = [Value.int .u8 (((UInt8.ofNat n.toNat).toNat : Nat) : Int)]
    rw [ofNat_toNat (by omega), Int.toNat_of_nonneg h1]
  obtain ⟨L, rfl⟩ := map_of_all (enc := by') this
  exact ⟨L, rfl⟩
end shapes
theorem main (args : List Value) (h : ArgsOk Try.prog 8 Try.f12.params.toList args) : ∃ n, allTrue (callD Try.prog S.AB (n + 1) (.fn 12) args emptyF) = true := by
  have hp : Try.f12.params.toList = [72, 35] := by kernel_rfl
  rw [hp] at h
  obtain ⟨x, l, rfl, h1, h⟩ := args_cons h
  obtain ⟨y, l, rfl, h2, h⟩ := args_cons h
  have h := args_nil h
  subst h
  obtain ⟨a, rfl, hN, hI, hP, hn⟩ := rec_arg h1
  obtain ⟨b, rfl⟩ := by_arg h2
  obtain ⟨s', e⟩ := S.run12 (n := 0) (mb := 0) emptyF a b hN hI hP hn
  exact ⟨12, by rw [e]; rfl⟩

set_option maxRecDepth 100000 in
theorem lifted (os : Os) (started : os.Started) (H : Type) (enc : TypeId × Value → H) :
    ReturnsInHanded {} Try.checked os 12 .any (Rows.recBackSpec.pre6 enc Try.prog Try.f12 Rows.recBackRow.domain false) (Rows.recBackSpec.post enc Try.prog Try.f12 false true false false) := by
  refine returnsInHanded_of_change_sized (C := Try.checked) own started (by kernel_rfl) Try.func12
    (ChangeSpec.witness6 (enc := enc) (C := Try.checked) false ⟨#[], #[.agg #[.int .i64 0, .slice none 0 0, .slice none 0 0, .slice none 0 0, .int .i64 0, .int .i64 0, .int .u64 0], .slice none 0 0], []⟩ 8 (by kernel_rfl) (by kernel_rfl) (by kernel_rfl) (by kernel_rfl)) ?_
  intro W base args ds gs before hval0 hW hcnd hsz0 _
  have hval : ∀ (j : Nat) t v, Try.f12.params.toList[j]? = some t → args[j]? = some v → Value.okWide Try.prog W .any base t v := fun j t v h => hval0 j t v (by simpa using h)
  have hW' := hW
  obtain ⟨p, q, hA0, hV, rfl, hfz, hnd⟩ := hW
  have hA : DataW.TrodAll enc Try.prog W 0 (fun _ => true) true Try.f12.params.toList args.toList ds p := hA0
  obtain ⟨rfl, rfl⟩ := trodVars_none hV
  have hlen := trod_len hA
  refine (law_calls (A := S.AB) emptyF rfl (fun i => rfl) iok named follows (fn := Try.f12) (by kernel_rfl) (by kernel_rfl) 8 (by kernel_rfl) main (noG W) hA hval).mono fun e W' ⟨he, bel⟩ => ?_
  subst he
  have hb := back_args laidOut bel hA (by kernel_rfl)
  clear hA hA0 hval hval0 hsz0
  match ds, hlen, hb with
  | [d1, d2], _, hb => exact ⟨_, rfl, _, _, _, [], _, [], hW', trodAll_mk1 (shut_bool Try.underlying4 _), hb, rfl, bel.frame _, fun h => by cases h⟩
theorem over : Rows.recBackRow.holds Try.pinned (OpenSpec.ofChange Rows.recBackSpec) :=
  OpenClaim.holds_of_wide 12 Try.f12 rfl rfl rfl rfl rfl rfl rfl ⟨rfl, rfl, rfl, rfl, rfl⟩ rfl rfl rfl rfl rfl (by kernel_rfl) Try.func12 (by kernel_rfl)
    (of_decide_eq_true (by kernel_rfl)) (by unfold Func.isWrapper; first | (rw [if_pos (by decide +kernel)]; kernel_rfl) | (rw [if_neg (by decide +kernel)]; exact ⟨rfl, rfl⟩))
    (fun os started H enc _ => lifted os started H enc)
theorem proved : Rows.RecBackSaid := over
#print axioms proved
end Go.Proofs.Ytmhmbmogodofeaa.recBack
