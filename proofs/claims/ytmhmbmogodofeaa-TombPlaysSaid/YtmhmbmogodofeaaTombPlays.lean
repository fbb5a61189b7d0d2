import Derived.Test.YtmhmbmogodofeaaCZ
import Derived.Test.YtmhmbmogodofeaaW21
import Derived.WalkKit
import Derived.OpenShut
import Derived.ShutString
import Derived.ChangeOld
import Derived.Below
import Derived.SizedLaws
/- Whatever the input, 'tidepolelaw21.TombPlays' answers true and leaves its arguments as they were. No condition. -/
set_option autoImplicit false
namespace Go.Proofs.Ytmhmbmogodofeaa.tombPlays
open Go.ChangeShapes Go.WideShapes Go.ChangeAt Go.RowKit Go.FS
set_option linter.unusedVariables false
theorem own:ownKnob Try.prog.godebug=none:=by kernel_rfl
theorem laidOut:laidOutB Try.prog=true:=by kernel_rfl
theorem namedB : (Try.prog.funcs.toList.all fun fn => !(fn.body.isSome && fn.name == "runtime.NumGoroutine")) = true := by kernel_rfl
theorem named:Named Try.prog:=by
 intro f fn hf hb
 have:=List.all_eq_true.1 namedB fn (List.mem_of_getElem? (by simpa using hf))
 rw [hb] at this
 simpa using this
theorem follows:Try.prog.follows .mixedOrders=true:=by kernel_rfl
theorem noG (W:World):∀ g cs,S.HP.glob g=some cs→GlbRel (Env0 W) g cs:=fun g cs h=>by cases h
theorem iok:IOk Try.prog S.AT.i:=by
 intro f i h
 by_cases e:f=45
 · subst e
   have h:some yes=some i:=h
   injection h with h
   subst h
   exact yes_ok (H:=S.HP) (A:=S.Aw) rfl (fun g cs h=>by cases h) emptyS rfl (fun i=>Tr.get_leaf i) noI_ok named follows (fn:=Try.f45) (by kernel_rfl) (by kernel_rfl) S.works
 · have h:(bif Nat.beq f 45 then some yes else none)=some i:=h
   rw [beq_no e] at h; cases h
theorem map_of_all {α:Type} {enc:α→List Value}:∀ {els:List (List Value)},(∀ el∈els,∃ r,el=enc r)→∃ L:List α,els=L.map enc
 | [],_=>⟨[],rfl⟩
 | e :: els,h=>by
  obtain ⟨r,hr⟩:=h e (List.mem_cons_self ..)
  obtain ⟨L,hL⟩:=map_of_all fun x hx=>h x (List.mem_cons_of_mem _ hx)
  exact ⟨r :: L,by rw [hr,hL]; rfl⟩
section shapes
set_option maxRecDepth 100000
open S
theorem sh_int {f:Nat} {t:TypeId} {k:IntKind} {cs:List Value} (hu:Try.prog.underlying t=some (.int k)) (h:Shaped Try.prog (f+1) t cs):∃ n,cs=[.int k n]∧k.min≤n∧n≤k.max:=by
 unfold Shaped at h; rw [hu] at h
 exact h
theorem sh_fields {f:Nat} {t:TypeId} {fs:Array Field} {cs:List Value} (hu:Try.prog.underlying t=some (.struct fs)) (h:Shaped Try.prog (f+1) t cs):∀ x∈fs.toList,Shaped Try.prog f x.type ((cs.drop x.offset).take (Try.prog.cellsOf x.type)):=by
 unfold Shaped at h; rw [hu] at h
 exact h.2
theorem map_of_allP {α:Type} {enc:α→List Value} {P:α→Prop}:∀ {els:List (List Value)},(∀ el∈els,∃ r,el=enc r∧P r)→∃ L:List α,els=L.map enc∧∀ x∈L,P x
 | [],_=>⟨[],rfl,fun x hx=>by cases hx⟩
 | e :: els,h=>by
  obtain ⟨r,hr,hp⟩:=h e (List.mem_cons_self ..)
  obtain ⟨L,hL,hP⟩:=map_of_allP fun x hx=>h x (List.mem_cons_of_mem _ hx)
  refine ⟨r :: L,by rw [hr,hL]; rfl,fun x hx=>?_⟩
  rcases List.mem_cons.1 hx with rfl | hx
  · exact hp
  · exact hP x hx
theorem c3':Try.prog.cellsOf 3=1:=by kernel_rfl
theorem c67':Try.prog.cellsOf 67=1:=by kernel_rfl
theorem c69':Try.prog.cellsOf 69=2:=by kernel_rfl
theorem c70':Try.prog.cellsOf 70=1:=by kernel_rfl
theorem c95':Try.prog.cellsOf 95=5:=by kernel_rfl
theorem u6_arg {f:Nat} (el:List Value) (h:el.length=Try.prog.cellsOf 70∧Shaped Try.prog (f+1) 70 el):∃ r:Int,el=u6 r∧0≤r∧r<2 ^ 64:=by
 obtain ⟨n,hn,h1,h2⟩:=sh_int u70 h.2
 have e1:IntKind.u64.min=0:=by decide
 have e2:IntKind.u64.max=2 ^ 64-1:=by decide
 rw [e1] at h1; rw [e2] at h2
 exact ⟨n,hn,h1,by omega⟩
theorem act_arg (el:List Value) (h:el.length=Try.prog.cellsOf 95∧Shaped Try.prog 7 95 el):∃ r:Ac,el=act r∧(∀ k∈r.2.2.1,0≤k∧k<2 ^ 64)∧0≤r.2.2.2:=by
 obtain ⟨hl,h⟩:=h
 rw [c95'] at hl
 have h:=sh_fields u95 h
 have g0:=h _ (List.mem_cons_self ..)
 have g1:=h _ (List.mem_cons_of_mem _ (List.mem_cons_self ..))
 have g2:=h _ (List.mem_cons_of_mem _ (List.mem_cons_of_mem _ (List.mem_cons_self ..)))
 have g3:=h _ (List.mem_cons_of_mem _ (List.mem_cons_of_mem _ (List.mem_cons_of_mem _ (List.mem_cons_self ..))))
 obtain ⟨a,ha,_⟩:=sh_int u3 g0
 have f1:=sh_fields u69 g1
 obtain ⟨b,hb,_⟩:=sh_int u3 (f1 _ (List.mem_cons_self ..))
 obtain ⟨c,hc,_⟩:=sh_int u3 (f1 _ (List.mem_cons_of_mem _ (List.mem_cons_self ..)))
 unfold Shaped at g2; rw [u67] at g2
 obtain ⟨els,hd,_,hall⟩:=g2
 obtain ⟨e,he,he0,_⟩:=sh_int u70 g3
 have he1:0≤e:=by
  have e1:IntKind.u64.min=0:=by decide
  rw [e1] at he0; exact he0
 obtain ⟨ids,rfl,hids⟩:=map_of_allP (enc:=u6) fun el hel=>u6_arg el (hall el hel)
 match el,hl with
 | [x0,x1,x2,x3,x4],_ =>
  simp only [c3',c67',c69',c70',List.drop_zero,List.take_succ_cons,List.take_zero,List.drop_succ_cons,List.cons.injEq,and_true] at ha hb hc hd he
  exact ⟨(a,(b,c),ids,e),by rw [ha,hb,hc,hd,he]; rfl,hids,he1⟩
theorem sm_arg (el:List Value) (h:el.length=Try.prog.cellsOf 140∧Shaped Try.prog 7 140 el):∃ r:Sa,el=sm r:=by
 obtain ⟨hl,h⟩:=h
 have c140':Try.prog.cellsOf 140=2:=by kernel_rfl
 rw [c140'] at hl
 have h:=sh_fields u140 h
 obtain ⟨a,ha,_⟩:=sh_int u3 (h _ (List.mem_cons_self ..))
 obtain ⟨b,hb,_⟩:=sh_int u70 (h _ (List.mem_cons_of_mem _ (List.mem_cons_self ..)))
 match el,hl with
 | [x,y],_ =>
  simp only [c3',c70',List.drop_zero,List.take_succ_cons,List.take_zero,List.drop_succ_cons,List.cons.injEq,and_true] at ha hb
  exact ⟨(a,b),by rw [ha,hb]; rfl⟩
end shapes
theorem main (args:List Value) (h:ArgsOk Try.prog 8 Try.f15.params.toList args):∃ n,allTrue (callD Try.prog S.AT (n+1) (.fn 15) args emptyF)=true:=by
 have hp:Try.f15.params.toList=[88,3,89]:=by kernel_rfl
 rw [hp] at h
 obtain ⟨x,l,rfl,h1,h⟩:=args_cons h
 obtain ⟨y,l,rfl,h2,h⟩:=args_cons h
 obtain ⟨z,l,rfl,h3,h⟩:=args_cons h
 have h:=args_nil h
 subst h
 obtain ⟨els,rfl,_,hall⟩:=arg_slice S.u88 h1
 obtain ⟨L,rfl,hL⟩:=map_of_allP (enc:=S.act) fun el hel=>act_arg el (hall el hel)
 obtain ⟨t,rfl,_⟩:=arg_int S.u3 h2
 obtain ⟨els2,rfl,_,hall2⟩:=arg_slice S.u89 h3
 obtain ⟨L2,rfl⟩:=map_of_all (enc:=S.sm) fun el hel=>sm_arg el (hall2 el hel)
 have e:=S.run15 (n:=0) (zs:=0) (s:=emptyF) L t L2 hL
 have e:S.Evr (callD Try.prog S.AT (2000+1) (.fn 15) [fz 0 (L.map S.act),.int .i64 t,fz 0 (L2.map S.sm)] emptyF) fun v _=>v=.bool true:=e
 exact ⟨2000,S.allTrue_evr e⟩
set_option maxRecDepth 100000 in
theorem lifted (os:Os) (started:os.Started) (H:Type) (enc:TypeId×Value→H) :
 ReturnsInHanded {} Try.checked os 15 .any (Rows.tombPlaysSpec.pre6 enc Try.prog Try.f15 Rows.tombPlaysRow.domain false) (Rows.tombPlaysSpec.post enc Try.prog Try.f15 false true false false):=by
 refine returnsInHanded_of_change_sized (C:=Try.checked) own started (by kernel_rfl) Try.func15
  (ChangeSpec.witness6 (enc:=enc) (C:=Try.checked) false ⟨#[],#[.slice none 0 0,.int .i64 0,.slice none 0 0],[]⟩ 8 (by kernel_rfl) (by kernel_rfl) (by kernel_rfl) (by kernel_rfl)) ?_
 intro W base args ds gs before hval0 hW hcnd hsz0 _
 have hval:∀ (j:Nat) t v,Try.f15.params.toList[j]?=some t→args[j]?=some v→Value.okWide Try.prog W .any base t v:=fun j t v h=>hval0 j t v (by simpa using h)
 have hW':=hW
 obtain ⟨p,q,hA0,hV,rfl,hfz,hnd⟩:=hW
 have hA:DataW.TrodAll enc Try.prog W 0 (fun _=>true) true Try.f15.params.toList args.toList ds p:=hA0
 obtain ⟨rfl,rfl⟩:=trodVars_none hV
 have hlen:=trod_len hA
 refine (law_calls (A:=S.AT) emptyF rfl (fun i=>rfl) iok named follows (fn:=Try.f15) (by kernel_rfl) (by kernel_rfl) 8 (by kernel_rfl) main (noG W) hA hval).mono fun e W' ⟨he,bel⟩=>?_
 subst he
 have hb:=back_args laidOut bel hA (by kernel_rfl)
 clear hA hA0 hval hval0 hsz0
 match ds,hlen,hb with
 | [d1,d2,d3],_,hb=>exact ⟨_,rfl,_,_,_,[],_,[],hW',trodAll_mk1 (shut_bool Try.underlying4 _),hb,rfl,bel.frame _,fun h=>by cases h⟩
theorem over:Rows.tombPlaysRow.holds Try.pinned (OpenSpec.ofChange Rows.tombPlaysSpec) :=
 OpenClaim.holds_of_wide 15 Try.f15 rfl rfl rfl rfl rfl rfl rfl ⟨rfl,rfl,rfl,rfl,rfl⟩ rfl rfl rfl rfl rfl (by kernel_rfl) Try.func15 (by kernel_rfl)
  (of_decide_eq_true (by kernel_rfl)) (by unfold Func.isWrapper; first | (rw [if_pos (by decide +kernel)]; kernel_rfl) | (rw [if_neg (by decide +kernel)]; exact ⟨rfl,rfl⟩))
  (fun os started H enc _=>lifted os started H enc)
theorem proved:Rows.TombPlaysSaid:=over
#print axioms proved
end Go.Proofs.Ytmhmbmogodofeaa.tombPlays
