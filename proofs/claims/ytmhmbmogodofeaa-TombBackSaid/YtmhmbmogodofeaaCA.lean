import Derived.Test.YtmhmbmogodofeaaQR
import Derived.Test.YtmhmbmogodofeaaST
import Derived.Test.YtmhmbmogodofeaaTT
import Derived.Test.YtmhmbmogodofeaaV
set_option autoImplicit false
set_option linter.unusedVariables false
set_option linter.unusedSimpArgs false
set_option maxRecDepth 100000
namespace Go.Proofs.Ytmhmbmogodofeaa.S
open Go.FS Go.RowKit
attribute [local congr] bind_cg cond_cg gd_cg
noncomputable abbrev HP:HeapI:=FG fun _=>none
noncomputable def IT:Intr HP:=fun f=>bif Nat.beq f 45 then some yes else none
def cutT (f:Nat):Option (List (Option Nat)):=match f with
  | 20 | 26 | 47 | 48 | 49 | 50 | 61 | 101 | 102 | 103 | 104 | 113 | 124 | 154 | 155=>some [none]
  | _=>none
noncomputable def AT:Ann HP:={ i:=IT,N:=2 ^ 64,row:=fun f=>Nat.beq f 210,cut:=cutT }
theorem atA:SA AT:=⟨fun f h1 h2=>by
  show (bif Nat.beq f 45 then some yes else none)=none
  rw [beq_no (by rintro rfl; exact absurd h1 (by decide))]; rfl,fun f h1 h2=>by
  show cutT f=none
  unfold cutT
  split <;> first | exact absurd h1 (by decide) | rfl,fun f h1 h2=>by
  show Nat.beq f 210=false
  exact beq_no (by rintro rfl; exact absurd h1 (by decide))⟩
theorem atB:SB AT:=⟨fun f h=>by rcases h with rfl | rfl | rfl | rfl <;> rfl,fun f h=>by rcases h with rfl | rfl | rfl | rfl <;> rfl,fun f h=>by rcases h with rfl | rfl | rfl | rfl <;> rfl⟩
theorem atC:SC AT:=⟨fun f h=>by rcases h with rfl | rfl | rfl | rfl | rfl | rfl <;> rfl,fun f h=>by rcases h with rfl | rfl | rfl | rfl | rfl <;> rfl,rfl,fun f h=>by rcases h with rfl | rfl | rfl | rfl | rfl <;> rfl,rfl⟩
theorem atN:AT.N=2 ^ 64:=rfl
abbrev SH:=St HP
abbrev Rg:=Int×Int
def rg (r:Rg):List Value:=[.int .i64 r.1,.int .i64 r.2]
theorem rg_len (r:Rg):(rg r).length=2:=rfl
def u6 (n:Int):List Value:=[.int .u64 n]
theorem u6_len (n:Int):(u6 n).length=1:=rfl
theorem ib (x y:Int):(x == y)=decide (x=y):=by by_cases h:x=y <;> simp [h]
theorem b_pne {t e:TypeId} (hu:Try.prog.underlying t=some (.pointer e)) (a:Addr):bopD Try.prog .neq t (.pointer (some a)) (.pointer none)=some (.bool true):=by
  simp only [bopD,binD,nilD,hu,nilEq]; rfl
theorem b_mne {t k e:TypeId} (hu:Try.prog.underlying t=some (.map k e)) (m:Nat):bopD Try.prog .neq t (.map (some m)) (.map none)=some (.bool true):=by
  simp only [bopD,binD,nilD,hu,nilEq]; rfl
theorem c104 {n:Nat} {s:SH} (a b:Int):callD Try.prog AT (n+1) (.fn 104) [.int .i64 a,.int .i64 b] s=some [(.bool (decide (b≤IntKind.i64.wrap (a+1))),s)]:=by
  refine cut_call (fn:=Try.f104) rfl rfl (by kernel_rfl) (v:=.bool (decide (b≤IntKind.i64.wrap (a+1)))) (fun _ h=>by cases h) (.bool _) ?_
  show One (bodyD Try.prog false _ _ 104 Try.f104 _ s) _
  rw [f104_r]
  simp only [f104,o_bool,o_alloc,o_box,o_build,o_buildSlice,o_load,o_store,o_nilCheck,o_bop,o_uop,o_conv,o_slc,o_fieldAddr,o_field,o_indexAddr,o_index,o_extract,o_lookup,o_mapUpdate,o_delete,o_makeMap,o_len,o_append,o_min,o_max,o_tgt,bindS,many1,jnE,boolS,gdB,fst',snd',bop_add,bop_leq,bindS]
  exact One.ret ⟨rfl,.refl s⟩
def among (a b:Int):Int:=if b<1 then 0 else IntKind.i64.wrap ((IntKind.u64.wrap a).tmod (IntKind.u64.wrap b))
def TombAt (s:SH) (p m:Nat):Prop:=HP.get s.h p=some (.row [.map (some m)])
theorem c101 {n p m:Nat} {s:SH} (h:TombAt s p m):callD Try.prog AT (n+1) (.fn 101) [.pointer (some ⟨p,0,none⟩)] s=some [(.bool true,s)]:=by
  refine cut_call (fn:=Try.f101) rfl rfl (by kernel_rfl) (v:=.bool true) (fun _ h=>by cases h) (.bool _) ?_
  show One (bodyD Try.prog false _ _ 101 Try.f101 _ s) _
  rw [f101_r]
  have hn:nilCheckD (.pointer (some ⟨p,0,none⟩))=some (.pointer (some ⟨p,0,none⟩)):=rfl
  have hl:loadD Try.prog s 156 (.pointer (some ⟨p,0,none⟩))=some (.map (some m)):=by rw [load_row h,part_one a156]; rfl
  simp only [f101,o_bool,o_alloc,o_box,o_build,o_buildSlice,o_load,o_store,o_nilCheck,o_bop,o_uop,o_conv,o_slc,o_fieldAddr,o_field,o_indexAddr,o_index,o_extract,o_lookup,o_mapUpdate,o_delete,o_makeMap,o_len,o_append,o_min,o_max,o_tgt,bindS,many1,jnE,boolS,gdB,fst',snd',b_pne u81,condT,hn,fld158_0,hl,b_mne u156]
  exact One.ret ⟨rfl,.refl s⟩
def rises:Int→List Int→Bool
  | _,[]=>true
  | last,x :: l=>decide (last<x)&&rises x l
def rightR (r:Rg) (ids:List Int):Bool:=rises 0 ids&&(decide (0≤r.1)&&(decide (r.1≤r.2)&&decide (r.2≤35184372088832)))
theorem c102 {n m:Nat} {s:SH} (r:Rg) (ids:List Int) (hl:ids.length<2 ^ 62):callD Try.prog AT (n+1) (.fn 102) [.agg (rg r).toArray,sl u6 m ids] s=some [(.bool (rightR r ids),s)]:=by
  refine cut_call (fn:=Try.f102) rfl rfl (by kernel_rfl) (v:=.bool (rightR r ids)) (fun _ h=>by cases h) (.bool _) ?_
  show One (bodyD Try.prog false _ _ 102 Try.f102 _ s) _
  rw [f102_r]
  have hb:boxD s (.agg (rg r).toArray)=some (.pointer (some ⟨s.n,0,none⟩),newD s (.row (rg r))):=box_at rfl rfl
  have l0:∀ s':SH,HP.get s'.h s.n=some (.row (rg r))→loadD Try.prog s' 3 (.pointer (some ⟨s.n,0,none⟩))=some (.int .i64 r.1):=fun s' h=>by rw [load_row h,part_one a3]; rfl
  have l1:∀ s':SH,HP.get s'.h s.n=some (.row (rg r))→loadD Try.prog s' 3 (.pointer (some ⟨s.n,1,none⟩))=some (.int .i64 r.2):=fun s' h=>by rw [load_row h,part_one a3]; rfl
  simp only [f102,o_bool,o_alloc,o_box,o_build,o_buildSlice,o_load,o_store,o_nilCheck,o_bop,o_uop,o_conv,o_slc,o_fieldAddr,o_field,o_indexAddr,o_index,o_extract,o_lookup,o_mapUpdate,o_delete,o_makeMap,o_len,o_append,o_min,o_max,o_tgt,bindS,many1,jnE,boolS,gdB,fst',snd',hb,len_sl u67]
  have hg:HP.get (newD s (.row (rg r))).h s.n=some (.row (rg r)):=get_new rfl
  have he:Ext s (newD s (.row (rg r))):=(Ext.refl s).new _
  generalize newD s (.row (rg r))=s1 at hg he
  refine list_one ids (fun i (x:Value×Value×Value×Value) (s':SH)=>s1=s'∧∃ last:Int,x.2.1=.int .u64 last∧x.1=.bool false∧x.2.2.2=.int .i64 i∧rises 0 ids=rises last (ids.drop i)) ?_ ?_ ⟨rfl,0,rfl,rfl,rfl,rfl⟩ (by show ids.length<2 ^ 64; omega)
  · rintro i hi ⟨x1,x2,x3,x4⟩ s' ⟨rfl,last,h1,h2,h3,h4⟩ nx hnx
    simp only at h1 h2 h3
    subst h1 h2 h3
    have hlt:(i:Int)<ids.length:=by omega
    have hw:IntKind.i64.wrap ((i:Int)+1)=((i+1:Nat):Int):=by rw [wrap_i64 (by omega) (by omega)]; rfl
    have hd:ids.drop i=ids[i] :: ids.drop (i+1):=List.drop_eq_getElem_cons hi
    have hld:loadD Try.prog s1 70 (fpV (u6 ids[i]).toArray 0)=some (.int .u64 ids[i]):=by rw [load_fp,part_one a70]; rfl
    simp only [f102_l0,o_bool,o_alloc,o_box,o_build,o_buildSlice,o_load,o_store,o_nilCheck,o_bop,o_uop,o_conv,o_slc,o_fieldAddr,o_field,o_indexAddr,o_index,o_extract,o_lookup,o_mapUpdate,o_delete,o_makeMap,o_len,o_append,o_min,o_max,o_tgt,bindS,many1,jnE,boolS,gdB,fst',snd',bop_lss,hlt,decide_true,condT,ixs67 u6_len hi,hld,bop_leq,bop_add,hw]
    rw [hd] at h4
    by_cases hq:ids[i]≤last
    · simp only [hq,decide_true,condT]
      refine One.ret ⟨?_,he⟩
      have:rises 0 ids=false:=by rw [h4]; simp only [rises]; rw [decide_eq_false (by omega)]; rfl
      unfold rightR; rw [this]; rfl
    · simp only [hq,decide_false,condF]
      refine hnx _ _ ⟨rfl,ids[i],rfl,rfl,rfl,?_⟩
      rw [h4]; simp only [rises]; rw [decide_eq_true (by omega)]; rfl
  · rintro ⟨x1,x2,x3,x4⟩ s' ⟨rfl,last,h1,h2,h3,h4⟩ nx
    simp only at h1 h2 h3
    subst h1 h2 h3
    have hnlt:¬ ((ids.length:Int)<ids.length):=by omega
    have hr:rises 0 ids=true:=by rw [h4,List.drop_length]; rfl
    simp only [f102_l0,o_bool,o_alloc,o_box,o_build,o_buildSlice,o_load,o_store,o_nilCheck,o_bop,o_uop,o_conv,o_slc,o_fieldAddr,o_field,o_indexAddr,o_index,o_extract,o_lookup,o_mapUpdate,o_delete,o_makeMap,o_len,o_append,o_min,o_max,o_tgt,bindS,many1,jnE,boolS,gdB,fst',snd',bop_lss,hnlt,decide_false,condF,beq_yes,condT,fld69_0,fld69_1,l0 s1 hg,l1 s1 hg,bop_geq,bop_leq]
    unfold rightR
    rw [hr]
    by_cases q1:(0:Int)≤r.1
    · have q1':r.1≥(0:Int):=q1
      simp only [q1',q1,decide_true,condT]
      by_cases q2:r.1≤r.2
      · simp only [q2,decide_true,condT]
        exact One.ret ⟨rfl,he⟩
      · simp only [q2,decide_false,condF]
        exact One.ret ⟨rfl,he⟩
    · have q1':¬ r.1≥(0:Int):=q1
      simp only [q1',q1,decide_false,condF]
      exact One.ret ⟨rfl,he⟩
theorem rg_strip (n:Nat) (r:Rg):(rg r).map (stripN 6 n)=rg r:=rfl
theorem rg_bel (n:Nat) (r:Rg):∀ v∈rg r,Bel n v:=by
  intro v hv
  simp only [rg,List.mem_cons,List.not_mem_nil,or_false] at hv
  rcases hv with rfl | rfl <;> exact .int _ _
def tou (a b:Int):Bool:=decide (b≤IntKind.i64.wrap (a+1))
def jstep (st:List Rg×Bool×Rg) (y:Rg):List Rg×Bool×Rg :=
  match st with
  | (out,done,x) =>
    bif !tou y.2 x.1 then (out++[y],done,x) else
    bif !tou x.2 y.1 then (bif !done then (out++[x]++[y],true,x) else (out++[y],done,x)) else
    (out,done,(if y.1<x.1 then y.1 else x.1,if x.2<y.2 then y.2 else x.2))
def joinF (l:List Rg) (x:Rg):List Rg :=
  match l.foldl jstep ([],false,x) with
  | (out,done,x)=>bif !done then out++[x] else out
theorem jstep_len (st:List Rg×Bool×Rg) (y:Rg):(jstep st y).1.length+(if (jstep st y).2.1 then 0 else 1)≤st.1.length+(if st.2.1 then 0 else 1)+1:=by
  obtain ⟨out,done,x⟩:=st
  cases h1:tou y.2 x.1 <;> cases h2:tou x.2 y.1 <;> cases done <;> simp [jstep,h1,h2]
theorem jfold_len (l:List Rg) (st:List Rg×Bool×Rg):(l.foldl jstep st).1.length+(if (l.foldl jstep st).2.1 then 0 else 1)≤st.1.length+(if st.2.1 then 0 else 1)+l.length:=by
  induction l generalizing st with
  | nil=>exact Nat.le_refl _
  | cons y l ih =>
    have:=ih (jstep st y)
    have:=jstep_len st y
    rw [List.foldl_cons,List.length_cons]; omega
theorem gapp {lo:Nat} {s:SH} {v:Value} {m2:Nat} {xs ys:List Rg} (h:Grow lo 2 rg s v xs) (hlo:lo≤s.n) (hb:(xs.length+ys.length)*16≤140737488355328) :
    ∃ v' s',appD Try.prog false s 160 160 v (sl rg m2 ys)=some (v',s')∧Grow lo 2 rg s' v' (xs++ys)∧Sm lo s s'∧(∀ j,j<s.n→HP.get s.h j≠some (.tok xs.length 2)→HP.get s'.h j=HP.get s.h j) :=
  h.app (i:=Try.t163) hlo u160 u160 (by kernel_rfl) zr163 rfl (by kernel_rfl) (by kernel_rfl) (by decide) rg_len hb (by omega)
theorem bs160 (s:SH) (y:Rg):buildSliceD Try.prog false s 160 1 [(0,.agg (rg y).toArray)]=some (sl rg 1 [y],s):=by kernel_rfl
theorem bld163 (a b:Int):buildD Try.prog 163 [(0,.int .i64 a),(1,.int .i64 b)]=some (.agg (rg (a,b)).toArray):=by kernel_rfl
theorem ld163 {s:SH} {id:Nat} {r:Rg} (h:HP.get s.h id=some (.row (rg r))):loadD Try.prog s 163 (.pointer (some ⟨id,0,none⟩))=some (.agg (rg r).toArray):=by rw [load_row h,part_agg a163 z163 (l:=rg r) rfl rfl]
theorem ld3_0 {s:SH} {id:Nat} {r:Rg} (h:HP.get s.h id=some (.row (rg r))):loadD Try.prog s 3 (.pointer (some ⟨id,0,none⟩))=some (.int .i64 r.1):=by rw [load_row h,part_one a3]; rfl
theorem ld3_1 {s:SH} {id:Nat} {r:Rg} (h:HP.get s.h id=some (.row (rg r))):loadD Try.prog s 3 (.pointer (some ⟨id,1,none⟩))=some (.int .i64 r.2):=by rw [load_row h,part_one a3]; rfl
theorem st163 {s:SH} {id:Nat} {r r':Rg} (h:HP.get s.h id=some (.row (rg r))):storeD Try.prog s 163 (.pointer (some ⟨id,0,none⟩)) (.agg (rg r').toArray)=some (putD s id (.row (rg r'))):=store_row z163 h rfl rfl rfl (by simp [rg])
theorem tgt_fn (f:FuncId) (args:List Value):tgtD (.func (.func f) #[] #[]) args=some (.fn f,args):=by simp [tgtD]
theorem c103 {n m:Nat} {s:SH} (l:List Rg) (x:Rg) (hlen:(l.length+1)*16≤140737488355328):callD Try.prog AT (n+2) (.fn 103) [sl rg m l,.agg (rg x).toArray,.func (.func 104) #[] #[]] s=some [(sl rg 0 (joinF l x),s)]:=by
  have hpos:0<(joinF l x).length:=by
    have:∀ (l:List Rg) (st:List Rg×Bool×Rg),(st.2.1=true→st.1≠[])→((l.foldl jstep st).2.1=true→(l.foldl jstep st).1≠[]):=by
      intro l
      induction l with
      | nil=>intro st h; exact h
      | cons y l ih =>
        intro st h
        refine ih _ ?_
        obtain ⟨out,done,x⟩:=st
        cases h1:tou y.2 x.1 <;> cases h2:tou x.2 y.1 <;> cases done <;> simp [jstep,h1,h2] at h ⊢ <;> exact h
    have h:=this l ([],false,x) (by simp)
    unfold joinF
    revert h
    obtain ⟨out,done,x'⟩:=l.foldl jstep ([],false,x)
    intro h
    cases done with
    | true=>simpa using List.length_pos_iff.2 (h rfl)
    | false=>simp
  suffices h:One (bodyD Try.prog false (callD Try.prog AT (n+1)) AT.N 103 Try.f103 [sl rg m l,.agg (rg x).toArray,.func (.func 104) #[] #[]] s) fun v s'=>Ext s s'∧Grow (s.n+1) 2 rg s' v (joinF l x) by
    obtain ⟨v,s',e,he,hg⟩:=h
    obtain ⟨k,hk,_,hk0⟩:=grow_cut hg (n:=s.n) (by omega) (rg_strip s.n)
    have hk0:=hk0 (List.length_pos_iff.1 hpos)
    subst hk0
    have hv:∀ a,v≠.tuple a:=by
      rcases hg with ⟨h0,_⟩ | ⟨id,_,_,h0,_⟩
      · rw [h0] at hpos; exact absurd hpos (by simp)
      · rw [h0]; intro a h; cases h
    rw [← hk]
    exact cut_call (fn:=Try.f103) rfl rfl (by kernel_rfl) hv (by rw [hk]; exact bel_sl (by omega) (rg_bel s.n)) ⟨v,s',e,rfl,he⟩
  rw [f103_r]
  have hb:boxD s (.agg (rg x).toArray)=some (.pointer (some ⟨s.n,0,none⟩),newD s (.row (rg x))):=box_at rfl rfl
  simp only [f103,o_bool,o_alloc,o_box,o_build,o_buildSlice,o_load,o_store,o_nilCheck,o_bop,o_uop,o_conv,o_slc,o_fieldAddr,o_field,o_indexAddr,o_index,o_extract,o_lookup,o_mapUpdate,o_delete,o_makeMap,o_len,o_append,o_min,o_max,o_tgt,bindS,many1,jnE,boolS,gdB,fst',snd',hb,len_sl u160,sl_nil rg]
  have hg:HP.get (newD s (.row (rg x))).h s.n=some (.row (rg x)):=get_new rfl
  have he:Sm s.n s (newD s (.row (rg x))):=(Sm.refl s.n s).new (Nat.le_refl _) _
  have hn:s.n+1≤(newD s (.row (rg x))).n:=by rw [newD_n]; exact Nat.le_refl _
  generalize newD s (.row (rg x))=s1 at hg he hn
  refine list_one l (fun i (y:Value×Value×Value×Value×Value) (s':SH)=>∃ out done xx,(l.take i).foldl jstep ([],false,x)=(out,done,xx)∧y.2.1=.bool done∧y.2.2.1=.int .i64 i∧Sm s.n s s'∧s.n+1≤s'.n∧HP.get s'.h s.n=some (.row (rg xx))∧Grow (s.n+1) 2 rg s' y.1 out) ?_ ?_ ⟨[],false,x,rfl,rfl,rfl,he,hn,hg,.inl ⟨rfl,.inl rfl⟩⟩ (by show l.length<2 ^ 64; omega)
  · rintro i hi ⟨y1,y2,y3,y4⟩ s' ⟨out,done,xx,hf,h1,h2,hsm,hn',hrow,hgr⟩ nx hnx
    simp only at h1 h2 hgr
    subst h1 h2
    have hlt:(i:Int)<l.length:=by omega
    have hw:IntKind.i64.wrap ((i:Int)+1)=((i+1:Nat):Int):=by rw [wrap_i64 (by omega) (by omega)]; rfl
    have hld:loadD Try.prog s' 163 (fpV (rg l[i]).toArray 0)=some (.agg (rg l[i]).toArray):=by rw [load_fp,part_agg a163 z163 (l:=rg l[i]) rfl rfl]
    have hal:allocD Try.prog s' 163=some (.pointer (some ⟨s'.n,0,none⟩),newD s' (.row (rg (0,0)))):=alloc_at zr163
    have hst:storeD Try.prog (newD s' (.row (rg (0,0)))) 163 (.pointer (some ⟨s'.n,0,none⟩)) (.agg (rg l[i]).toArray)=some (putD (newD s' (.row (rg (0,0)))) s'.n (.row (rg l[i]))):=st163 (get_new rfl)
    have ha:HP.get (putD (newD s' (.row (rg (0,0)))) s'.n (.row (rg l[i]))).h s'.n=some (.row (rg l[i])):=get_put_same _
    have hx:HP.get (putD (newD s' (.row (rg (0,0)))) s'.n (.row (rg l[i]))).h s.n=some (.row (rg xx)):=by rw [get_put_other (by omega),get_old (by omega),hrow]
    have hsm2:Sm s.n s (putD (newD s' (.row (rg (0,0)))) s'.n (.row (rg l[i]))):=(hsm.new (by omega) _).put (by omega) _
    have hn2:s.n+1≤(putD (newD s' (.row (rg (0,0)))) s'.n (.row (rg l[i]))).n:=by rw [putD_n,newD_n]; omega
    have hgr2:Grow (s.n+1) 2 rg (putD (newD s' (.row (rg (0,0)))) s'.n (.row (rg l[i]))) y1 out:=(hgr.new _).put _ (by rw [get_new rfl]; intro h; cases h)
    have hlt2:s'.n<(putD (newD s' (.row (rg (0,0)))) s'.n (.row (rg l[i]))).n:=by rw [putD_n,newD_n]; omega
    simp only [f103_l0,o_bool,o_alloc,o_box,o_build,o_buildSlice,o_load,o_store,o_nilCheck,o_bop,o_uop,o_conv,o_slc,o_fieldAddr,o_field,o_indexAddr,o_index,o_extract,o_lookup,o_mapUpdate,o_delete,o_makeMap,o_len,o_append,o_min,o_max,o_tgt,bindS,many1,jnE,boolS,gdB,fst',snd',bop_lss,hlt,decide_true,condT,ixs160 rg_len hi,hld,hal,hst]
    generalize putD (newD s' (.row (rg (0,0)))) s'.n (.row (rg l[i]))=s2 at ha hx hsm2 hn2 hgr2 hlt2
    have hfs:(l.take (i+1)).foldl jstep ([],false,x)=jstep (out,done,xx) l[i]:=by rw [List.take_succ_eq_append_getElem hi,List.foldl_append,hf]; rfl
    have hol:out.length+(if done then 0 else 1)≤i+1:=by
      have:=jfold_len (l.take i) ([],false,x)
      rw [hf,List.length_take] at this
      simp at this
      have:min i l.length=i:=by omega
      omega
    have t1:=c104 (n:=n) (s:=s2) l[i].2 xx.1
    have t2:=c104 (n:=n) (s:=s2) xx.2 l[i].1
    simp only [fld163_0,fld163_1,ld163 ha,ld163 hx,ld3_0 ha,ld3_1 ha,ld3_0 hx,ld3_1 hx,o_bool,o_alloc,o_box,o_build,o_buildSlice,o_load,o_store,o_nilCheck,o_bop,o_uop,o_conv,o_slc,o_fieldAddr,o_field,o_indexAddr,o_index,o_extract,o_lookup,o_mapUpdate,o_delete,o_makeMap,o_len,o_append,o_min,o_max,o_tgt,bindS,many1,jnE,boolS,gdB,fst',snd',tgt_fn,t1,t2,uop_not]
    unfold jstep at hfs
    simp only at hfs
    change _=(bif !tou l[i].2 xx.1 then _ else bif !tou xx.2 l[i].1 then _ else _) at hfs
    have hap:∀ (w:Value) (sw:SH) (o r:List Rg),Grow (s.n+1) 2 rg sw w o→s.n+1≤sw.n→o.length+r.length≤l.length+1→∃ v' s',appD Try.prog false sw 160 160 w (sl rg 1 r)=some (v',s')∧Grow (s.n+1) 2 rg s' v' (o++r)∧Sm (s.n+1) sw s'∧(∀ j,j<sw.n→HP.get sw.h j≠some (.tok o.length 2)→HP.get s'.h j=HP.get sw.h j):=fun w sw o r hq hq2 hq3=>gapp hq hq2 (by have:=Nat.mul_le_mul_right 16 hq3; omega)
    have fin:∀ (w:Value) (sw:SH) (o:List Rg) (d:Bool) (q:Rg) (z:Value) (z2:Value),(l.take (i+1)).foldl jstep ([],false,x)=(o,d,q)→Sm s.n s sw→s.n+1≤sw.n→HP.get sw.h s.n=some (.row (rg q))→Grow (s.n+1) 2 rg sw w o→One (nx (w,.bool d,.int .i64 ((i+1:Nat):Int),z,z2) sw) fun v s'=>Ext s s'∧Grow (s.n+1) 2 rg s' v (joinF l x):=fun w sw o d q z z2 e1 e2 e3 e4 e5=>hnx _ _ ⟨o,d,q,e1,rfl,rfl,e2,e3,e4,e5⟩
    cases k1:tou l[i].2 xx.1 with
    | false =>
      have k1':decide (xx.1≤IntKind.i64.wrap (l[i].2+1))=false:=k1
      rw [k1] at hfs
      simp only [Bool.not_false,cond_true] at hfs
      obtain ⟨v',s3,e1,g1,g2,g3⟩:=hap y1 s2 out [l[i]] hgr2 hn2 (by simp; split at hol <;> omega)
      simp only [k1',Bool.not_false,condT,bs160,o_bool,o_alloc,o_box,o_build,o_buildSlice,o_load,o_store,o_nilCheck,o_bop,o_uop,o_conv,o_slc,o_fieldAddr,o_field,o_indexAddr,o_index,o_extract,o_lookup,o_mapUpdate,o_delete,o_makeMap,o_len,o_append,o_min,o_max,o_tgt,bindS,many1,jnE,boolS,gdB,fst',snd',e1,bop_add,hw]
      exact fin _ _ _ _ _ _ _ hfs (hsm2.trans ⟨g2.1,fun j hj=>g2.2 j (by omega)⟩) (by have:=g2.1; omega) (by rw [g2.2 _ (by omega),hx]) g1
    | true =>
      have k1':decide (xx.1≤IntKind.i64.wrap (l[i].2+1))=true:=k1
      rw [k1] at hfs
      simp only [Bool.not_true,cond_false] at hfs
      cases k2:tou xx.2 l[i].1 with
      | false =>
        have k2':decide (l[i].1≤IntKind.i64.wrap (xx.2+1))=false:=k2
        rw [k2] at hfs
        simp only [Bool.not_false,cond_true] at hfs
        cases done with
        | true =>
          simp only [Bool.not_true,cond_false] at hfs
          obtain ⟨v',s3,e1,g1,g2,g3⟩:=hap y1 s2 out [l[i]] hgr2 hn2 (by simp at hol ⊢; omega)
          simp only [k1',k2',Bool.not_true,Bool.not_false,condT,condF,ld163 ha,bs160,o_bool,o_alloc,o_box,o_build,o_buildSlice,o_load,o_store,o_nilCheck,o_bop,o_uop,o_conv,o_slc,o_fieldAddr,o_field,o_indexAddr,o_index,o_extract,o_lookup,o_mapUpdate,o_delete,o_makeMap,o_len,o_append,o_min,o_max,o_tgt,bindS,many1,jnE,boolS,gdB,fst',snd',e1,bop_add,hw]
          exact fin _ _ _ _ _ _ _ hfs (hsm2.trans ⟨g2.1,fun j hj=>g2.2 j (by omega)⟩) (by have:=g2.1; omega) (by rw [g2.2 _ (by omega),hx]) g1
        | false =>
          simp only [Bool.not_false,cond_true] at hfs
          obtain ⟨v',s3,e1,g1,g2,g3⟩:=hap y1 s2 out [xx] hgr2 hn2 (by simp at hol ⊢; omega)
          have ha3:HP.get s3.h s'.n=some (.row (rg l[i])):=by rw [g3 _ hlt2 (by rw [ha]; intro h; cases h),ha]
          obtain ⟨v'',s4,f1,f2,f3,f4⟩:=hap v' s3 (out++[xx]) [l[i]] g1 (by have:=g2.1; omega) (by simp at hol ⊢; omega)
          simp only [k1',k2',Bool.not_true,Bool.not_false,condT,condF,ld163 ha3,bs160,o_bool,o_alloc,o_box,o_build,o_buildSlice,o_load,o_store,o_nilCheck,o_bop,o_uop,o_conv,o_slc,o_fieldAddr,o_field,o_indexAddr,o_index,o_extract,o_lookup,o_mapUpdate,o_delete,o_makeMap,o_len,o_append,o_min,o_max,o_tgt,bindS,many1,jnE,boolS,gdB,fst',snd',e1,f1,bop_add,hw]
          exact fin _ _ _ _ _ _ _ hfs (hsm2.trans ⟨Nat.le_trans g2.1 f3.1,fun j hj=>(f3.2 j (by omega)).trans (g2.2 j (by omega))⟩) (by have:=g2.1; have:=f3.1; omega) (by rw [f3.2 _ (by omega),g2.2 _ (by omega),hx]) f2
      | true =>
        have k2':decide (l[i].1≤IntKind.i64.wrap (xx.2+1))=true:=k2
        rw [k2] at hfs
        simp only [Bool.not_true,cond_false] at hfs
        simp only [k1',k2',Bool.not_true,condF,min_int,max_int,bld163,st163 hx,o_bool,o_alloc,o_box,o_build,o_buildSlice,o_load,o_store,o_nilCheck,o_bop,o_uop,o_conv,o_slc,o_fieldAddr,o_field,o_indexAddr,o_index,o_extract,o_lookup,o_mapUpdate,o_delete,o_makeMap,o_len,o_append,o_min,o_max,o_tgt,bindS,many1,jnE,boolS,gdB,fst',snd',bop_add,hw]
        exact fin _ _ _ _ _ _ _ hfs (hsm2.put (Nat.le_refl _) _) (by rw [putD_n]; omega) (get_put_same _) (hgr2.put _ (by rw [hx]; intro h; cases h))
  · rintro ⟨y1,y2,y3,y4⟩ s' ⟨out,done,xx,hf,h1,h2,hsm,hn',hrow,hgr⟩ nx
    simp only at h1 h2 hgr
    subst h1 h2
    have hnlt:¬ ((l.length:Int)<l.length):=by omega
    rw [List.take_length] at hf
    have hjf:joinF l x=bif !done then out++[xx] else out:=by unfold joinF; rw [hf]
    simp only [f103_l0,o_bool,o_alloc,o_box,o_build,o_buildSlice,o_load,o_store,o_nilCheck,o_bop,o_uop,o_conv,o_slc,o_fieldAddr,o_field,o_indexAddr,o_index,o_extract,o_lookup,o_mapUpdate,o_delete,o_makeMap,o_len,o_append,o_min,o_max,o_tgt,bindS,many1,jnE,boolS,gdB,fst',snd',bop_lss,hnlt,decide_false,condF,beq_yes,condT,uop_not]
    cases done with
    | true =>
      simp only [Bool.not_true,condF]
      refine One.ret ⟨hsm,?_⟩
      rw [hjf]; exact hgr
    | false =>
      have hol:out.length+1≤l.length+1:=by
        have:=jfold_len l ([],false,x)
        rw [hf] at this
        simp at this; omega
      obtain ⟨v',s3,e1,g1,g2,g3⟩:=gapp (m2:=1) (ys:=[xx]) hgr hn' (by have:=Nat.mul_le_mul_right 16 hol; simpa using (by omega))
      simp only [Bool.not_false,condT,ld163 hrow,bs160,o_bool,o_alloc,o_box,o_build,o_buildSlice,o_load,o_store,o_nilCheck,o_bop,o_uop,o_conv,o_slc,o_fieldAddr,o_field,o_indexAddr,o_index,o_extract,o_lookup,o_mapUpdate,o_delete,o_makeMap,o_len,o_append,o_min,o_max,o_tgt,bindS,many1,jnE,boolS,gdB,fst',snd',e1]
      refine One.ret ⟨hsm.trans ⟨g2.1,fun j hj=>g2.2 j (by omega)⟩,?_⟩
      rw [hjf]; exact g1
end Go.Proofs.Ytmhmbmogodofeaa.S
set_option autoImplicit false
set_option linter.unusedVariables false
set_option linter.unusedSimpArgs false
set_option maxRecDepth 100000
namespace Go.Proofs.Ytmhmbmogodofeaa.S
open Go.FS Go.RowKit
attribute [local congr] bind_cg cond_cg gd_cg
abbrev En:=Int×List Rg×Nat
def ent (e:En):Value×Value×Nat:=(.int .u64 e.1,sl rg 0 e.2.1,e.2.2)
def lk:List En→Int→List Rg
  | [],_=>[]
  | e :: l,k=>if e.1=k then e.2.1 else lk l k
def upE:List En→Nat→Int→List Rg→List En×Nat
  | [],c,k,l=>([(k,l,c)],c+1)
  | e :: es,c,k,l=>if e.1=k then ((k,l,e.2.2) :: es,c) else (e :: (upE es c k l).1,(upE es c k l).2)
theorem find_lk:∀ (es:List En) (k:Int) (i:Nat),(∃ j e,findD (.int .u64 k) (es.map ent) i=some (some (i+j,sl rg 0 (lk es k)))∧es[j]?=some e∧e.1=k∧(∀ c l,upE es c k l=(es.set j (k,l,e.2.2),c)))∨(findD (.int .u64 k) (es.map ent) i=some none∧lk es k=[]∧∀ c l,upE es c k l=(es++[(k,l,c)],c+1))
  | [],k,i=>.inr ⟨rfl,rfl,fun _ _=>rfl⟩
  | e :: es,k,i=>by
    have hk:keyEq (.int .u64 k) (.int .u64 e.1)=some (decide (k=e.1)):=rfl
    have hf:findD (.int .u64 k) ((e :: es).map ent) i=(keyEq (.int .u64 k) (.int .u64 e.1)).bind fun b=>cond b (some (some (i,sl rg 0 e.2.1))) (findD (.int .u64 k) (es.map ent) (i+1)):=rfl
    rw [hf,hk,bindS]
    by_cases h:e.1=k
    · left
      refine ⟨0,e,?_,rfl,h,fun c l=>?_⟩
      · rw [decide_eq_true h.symm,condT]; simp only [lk,h,if_true]; rfl
      · simp only [upE,h,if_true,List.set_cons_zero]
    · rw [decide_eq_false (fun e=>h e.symm),condF]
      rcases find_lk es k (i+1) with ⟨j,e',h1,h2,h3,h4⟩ | ⟨h1,h2,h3⟩
      · left
        refine ⟨j+1,e',?_,h2,h3,fun c l=>?_⟩
        · rw [h1]; simp only [lk,h,if_false]; congr 3; omega
        · simp only [upE,h,if_false,h4,List.set_cons_succ]
      · right
        refine ⟨h1,?_,fun c l=>?_⟩
        · simp only [lk,h,if_false,h2]
        · simp only [upE,h,if_false,h3,List.cons_append]
theorem keyFit70 (k:Int):keyFit Try.prog 70 (.int .u64 k)=true:=by unfold keyFit; rw [u70]
theorem lookup_lk {s:SH} {m c:Nat} {es:List En} (h:HP.get s.h m=some (.map (es.map ent) c)) (k:Int):∃ q,(q=0∨q=2)∧lookupD Try.prog s 156 (.map (some m)) (.int .u64 k) false=some (sl rg q (lk es k)):=by
  have e:lookupD Try.prog s 156 (.map (some m)) (.int .u64 k) false=(findD (.int .u64 k) (es.map ent) 0).bind fun r=>(match r with | some (_,v)=>some (v,true) | none=>(zeroV Try.prog 160).map fun v=>(v,false)).map fun (p:Value×Bool)=>cond false (.tuple #[p.1,.bool p.2]) p.1:=by
    unfold lookupD
    rw [u156]
    simp only [keyFit70,condT,map_of h,bindS]
    rfl
  rcases find_lk es k 0 with ⟨j,e',h1,h2,h3,h4⟩ | ⟨h1,h2,h3⟩
  · exact ⟨0,.inl rfl,by rw [e,h1,bindS]; rfl⟩
  · exact ⟨2,.inr rfl,by rw [e,h1,bindS,zv160,h2]; rfl⟩
theorem update_lk {s:SH} {m c:Nat} {es:List En} (h:HP.get s.h m=some (.map (es.map ent) c)) (k:Int) (l:List Rg):mapUpdateD Try.prog s 156 (.map (some m)) (.int .u64 k) (sl rg 0 l)=some (putD s m (.map ((upE es c k l).1.map ent) (upE es c k l).2)):=by
  have e:mapUpdateD Try.prog s 156 (.map (some m)) (.int .u64 k) (sl rg 0 l)=(findD (.int .u64 k) (es.map ent) 0).bind fun r=>match r with
      | some (i,_)=>((es.map ent)[i]?).map fun e=>putD s m (.map ((es.map ent).set i (.int .u64 k,sl rg 0 l,e.2.2)) c)
      | none=>some (putD s m (.map ((es.map ent)++[(.int .u64 k,sl rg 0 l,c)]) (c+1))):=by
    unfold mapUpdateD
    rw [u156]
    simp only [keyFit70,condT,map_of h,bindS]
    rfl
  rcases find_lk es k 0 with ⟨j,e',h1,h2,h3,h4⟩ | ⟨h1,h2,h3⟩
  · rw [e,h1,bindS]
    simp only [Nat.zero_add]
    rw [List.getElem?_map,h2]
    simp only [Option.map_some,h4,List.map_set]
    rfl
  · rw [e,h1,bindS,h3]
    simp only [List.map_append]
    rfl
def addE (es:List En) (c:Nat) (r:Rg) (ids:List Int):List En×Nat:=ids.foldl (fun p k=>upE p.1 p.2 k (joinF (lk p.1 k) r)) (es,c)
def most (es:List En) (B:Nat):Prop:=∀ e∈es,e.2.1.length≤B
theorem most_lk {es:List En} {B:Nat} (h:most es B) (k:Int):(lk es k).length≤B:=by
  induction es with
  | nil=>exact Nat.zero_le _
  | cons e es ih =>
    unfold lk
    split
    · exact h e (List.mem_cons_self ..)
    · exact ih fun e he=>h e (List.mem_cons_of_mem _ he)
theorem joinF_len (l:List Rg) (x:Rg):(joinF l x).length≤l.length+1:=by
  have:=jfold_len l ([],false,x)
  unfold joinF
  revert this
  obtain ⟨out,done,x'⟩:=l.foldl jstep ([],false,x)
  cases done <;> simp <;> omega
theorem most_up {es:List En} {B:Nat} (h:most es B) (c:Nat) (k:Int) (l:List Rg) (hl:l.length≤B):most (upE es c k l).1 B:=by
  induction es with
  | nil=>intro e he; simp only [upE,List.mem_singleton] at he; rw [he]; exact hl
  | cons e es ih =>
    have ih:=ih fun e he=>h e (List.mem_cons_of_mem _ he)
    unfold upE
    split
    · intro e' he
      rcases List.mem_cons.1 he with rfl | he
      · exact hl
      · exact h e' (List.mem_cons_of_mem _ he)
    · intro e' he
      rcases List.mem_cons.1 he with rfl | he
      · exact h _ (List.mem_cons_self ..)
      · exact ih e' he
theorem eqO_same (v:Value):eqO HP (some v) v=true:=by simp [eqO,FG]
theorem bel_ent (n:Nat) (es:List En):∀ e∈es.map ent,Bel n e.1∧Bel n e.2.1:=by
  intro e he
  obtain ⟨x,_,rfl⟩:=List.mem_map.1 he
  exact ⟨.int _ _,bel_sl (by omega) (rg_bel n)⟩
theorem c47 {n p m c mm B:Nat} {s:SH} {es:List En} (ht:TombAt s p m) (hm:HP.get s.h m=some (.map (es.map ent) c)) (hp:p<s.n) (hmn:m<s.n) (r:Rg) (ids:List Int) (hB:most es B) (hbd:(B+ids.length+1)*16≤140737488355328) :
    callD Try.prog AT (n+3) (.fn 47) [.pointer (some ⟨p,0,none⟩),.agg (rg r).toArray,sl u6 mm ids] s=some [(.int .i64 (if rightR r ids then 0 else 2),if rightR r ids then putD s m (.map ((addE es c r ids).1.map ent) (addE es c r ids).2) else s)]:=by
  have hpm:p≠m:=by rintro rfl; unfold TombAt at ht; rw [ht] at hm; cases hm
  -- the run
  suffices h:∃ s',bodyD Try.prog false (callD Try.prog AT (n+2)) AT.N 47 Try.f47 [.pointer (some ⟨p,0,none⟩),.agg (rg r).toArray,sl u6 mm ids] s=some [(.int .i64 (if rightR r ids then 0 else 2),s')]∧s.n≤s'.n∧(∀ j,j<s.n→j≠m→HP.get s'.h j=HP.get s.h j)∧HP.get s'.h m=some (if rightR r ids then .map ((addE es c r ids).1.map ent) (addE es c r ids).2 else .map (es.map ent) c) by
    obtain ⟨s',e,h1,h2,h3⟩:=h
    rw [call_cut (fl:=[none]) (fn:=Try.f47) rfl rfl (by kernel_rfl)]
    show ((bodyD Try.prog false _ _ 47 Try.f47 _ s).bind _)=_
    rw [e,bindS]
    have hmrg:mrg s s'=if rightR r ids then putD s m (.map ((addE es c r ids).1.map ent) (addE es c r ids).2) else s:=by
      have e1:mrg s s'=putD s m (if rightR r ids then .map ((addE es c r ids).1.map ent) (addE es c r ids).2 else .map (es.map ent) c):=mrg_put hmn h1 h2 h3
      rw [e1]
      cases rightR r ids with
      | true=>rfl
      | false=>exact put_same hm
    have hb:BelO s.n (HP.get s'.h m):=by
      rw [h3]
      split <;> exact bel_ent _ _
    rw [cut_at (fun j hj=>if e:j=m then .inr (by rw [e]; exact hb) else .inl (h2 j hj e)) h1 (fun _ h=>by cases h) (.int _ _),hmrg]
    rfl
  rw [f47_r]
  have hb:boxD s (.agg (rg r).toArray)=some (.pointer (some ⟨s.n,0,none⟩),newD s (.row (rg r))):=box_at rfl rfl
  have hg:HP.get (newD s (.row (rg r))).h s.n=some (.row (rg r)):=get_new rfl
  have ho:∀ j,j<s.n→HP.get (newD s (.row (rg r))).h j=HP.get s.h j:=fun j hj=>get_old (by omega)
  have hn:(newD s (.row (rg r))).n=s.n+1:=newD_n _ _
  simp only [f47,o_bool,o_alloc,o_box,o_build,o_buildSlice,o_load,o_store,o_nilCheck,o_bop,o_uop,o_conv,o_slc,o_fieldAddr,o_field,o_indexAddr,o_index,o_extract,o_lookup,o_mapUpdate,o_delete,o_makeMap,o_len,o_append,o_min,o_max,o_tgt,bindS,many1,jnE,boolS,gdB,fst',snd',hb]
  generalize newD s (.row (rg r))=s1 at hg ho hn
  have ht1:TombAt s1 p m:=by unfold TombAt; rw [ho p hp]; exact ht
  have hld:loadD Try.prog s1 69 (.pointer (some ⟨s.n,0,none⟩))=some (.agg (rg r).toArray):=by rw [load_row hg,part_agg a69 z69 (l:=rg r) rfl rfl]
  simp only [c101 ht1,o_bool,o_alloc,o_box,o_build,o_buildSlice,o_load,o_store,o_nilCheck,o_bop,o_uop,o_conv,o_slc,o_fieldAddr,o_field,o_indexAddr,o_index,o_extract,o_lookup,o_mapUpdate,o_delete,o_makeMap,o_len,o_append,o_min,o_max,o_tgt,bindS,many1,jnE,boolS,gdB,fst',snd',uop_not,Bool.not_true,condF,hld,c102 (n:=n+1) r ids (by omega)]
  cases hr:rightR r ids with
  | false =>
    simp only [Bool.not_false,condT]
    refine ⟨s1,rfl,by omega,fun j hj _=>ho j hj,?_⟩
    rw [ho m hmn]; exact hm
  | true =>
    simp only [Bool.not_true,condF,len_sl u67,bindS,if_true]
    refine list_rule ids (fun i (x:Value×Value) (s':SH)=>x.2=.int .i64 i∧s'.n=s1.n∧(∀ j,j≠m→HP.get s'.h j=HP.get s1.h j)∧HP.get s'.h m=some (.map ((addE es c r (ids.take i)).1.map ent) (addE es c r (ids.take i)).2)∧most (addE es c r (ids.take i)).1 (B+i)) (fun (q:Option (List (Value×SH)))=>∃ s',q=some [(.int .i64 0,s')]∧s.n≤s'.n∧(∀ j,j<s.n→j≠m→HP.get s'.h j=HP.get s.h j)∧HP.get s'.h m=some (.map ((addE es c r ids).1.map ent) (addE es c r ids).2)) ?_ ?_ ?h0 (by show ids.length<2 ^ 64; omega)
    case h0=>exact ⟨rfl,rfl,fun _ _=>rfl,by rw [ho m hmn]; exact hm,hB⟩
    · rintro i hi ⟨x1,x2⟩ s' ⟨h1,h2,h3,h4,h5⟩ nx hnx
      simp only at h1
      subst h1
      have hlt:(i:Int)<ids.length:=by omega
      have hw:IntKind.i64.wrap ((i:Int)+1)=((i+1:Nat):Int):=by rw [wrap_i64 (by omega) (by omega)]; rfl
      have hidl:loadD Try.prog s' 70 (fpV (u6 ids[i]).toArray 0)=some (.int .u64 ids[i]):=by rw [load_fp,part_one a70]; rfl
      have hn1:nilCheckD (.pointer (some ⟨p,0,none⟩))=some (.pointer (some ⟨p,0,none⟩)):=rfl
      have ht2:HP.get s'.h p=some (.row [.map (some m)]):=by rw [h3 p hpm]; exact ht1
      have hl:loadD Try.prog s' 156 (.pointer (some ⟨p,0,none⟩))=some (.map (some m)):=by rw [load_row ht2,part_one a156]; rfl
      have hsn:s.n≠m:=by omega
      have hrow:HP.get s'.h s.n=some (.row (rg r)):=by rw [h3 s.n hsn,hg]
      obtain ⟨q,_,hlk⟩:=lookup_lk h4 ids[i]
      have hlen:((lk (addE es c r (ids.take i)).1 ids[i]).length+1)*16≤140737488355328:=by
        have:=most_lk h5 ids[i]
        have h8:(lk (addE es c r (ids.take i)).1 ids[i]).length+1≤B+ids.length+1:=by omega
        exact Nat.le_trans (Nat.mul_le_mul_right 16 h8) hbd
      have hj:=c103 (n:=n) (s:=s') (m:=q) (lk (addE es c r (ids.take i)).1 ids[i]) r hlen
      have hone:oneO (callD Try.prog AT (n+2)) (.fn 103) [sl rg q (lk (addE es c r (ids.take i)).1 ids[i]),.agg (rg r).toArray,.func (.func 104) #[] #[]] s'=some (sl rg 0 (joinF (lk (addE es c r (ids.take i)).1 ids[i]) r),s'):=oneS hj
      have hup:=update_lk h4 ids[i] (joinF (lk (addE es c r (ids.take i)).1 ids[i]) r)
      simp only [f47_l0,o_bool,o_alloc,o_box,o_build,o_buildSlice,o_load,o_store,o_nilCheck,o_bop,o_uop,o_conv,o_slc,o_fieldAddr,o_field,o_indexAddr,o_index,o_extract,o_lookup,o_mapUpdate,o_delete,o_makeMap,o_len,o_append,o_min,o_max,o_tgt,bindS,many1,jnE,boolS,gdB,fst',snd',bop_lss,hlt,decide_true,condT,ixs67 u6_len hi,hidl,hn1,fld158_0,hl,hlk,fld69_0,fld69_1,ld3_0 hrow,ld3_1 hrow,bld163,hone,hup,eqO_same,Bool.and_self,bop_add,hw]
      have hstep:addE es c r (ids.take (i+1))=upE (addE es c r (ids.take i)).1 (addE es c r (ids.take i)).2 ids[i] (joinF (lk (addE es c r (ids.take i)).1 ids[i]) r):=by
        unfold addE
        rw [List.take_succ_eq_append_getElem hi,List.foldl_append]; rfl
      refine hnx (_,_) _ ⟨rfl,?_,fun j hj=>?_,?_,?_⟩
      · rw [putD_n]; exact h2
      · rw [get_put_other hj,h3 j hj]
      · rw [get_put_same,hstep]
      · rw [hstep]
        refine most_up (fun e he=>Nat.le_succ_of_le (h5 e he)) _ _ _ ?_
        have:=joinF_len (lk (addE es c r (ids.take i)).1 ids[i]) r
        have:=most_lk h5 ids[i]
        omega
    · rintro ⟨x1,x2⟩ s' ⟨h1,h2,h3,h4,h5⟩ nx
      simp only at h1
      subst h1
      have hnlt:¬ ((ids.length:Int)<ids.length):=by omega
      simp only [f47_l0,o_bool,o_alloc,o_box,o_build,o_buildSlice,o_load,o_store,o_nilCheck,o_bop,o_uop,o_conv,o_slc,o_fieldAddr,o_field,o_indexAddr,o_index,o_extract,o_lookup,o_mapUpdate,o_delete,o_makeMap,o_len,o_append,o_min,o_max,o_tgt,bindS,many1,jnE,boolS,gdB,fst',snd',bop_lss,hnlt,decide_false,condF,beq_yes,condT]
      rw [List.take_length] at h4
      exact ⟨s',rfl,by omega,fun j hj hjm=>by rw [h3 j hjm,ho j hj],h4⟩
end Go.Proofs.Ytmhmbmogodofeaa.S
set_option autoImplicit false
set_option linter.unusedVariables false
set_option linter.unusedSimpArgs false
set_option maxRecDepth 100000
namespace Go.Proofs.Ytmhmbmogodofeaa.S
open Go.FS Go.RowKit
attribute [local congr] bind_cg cond_cg gd_cg
end Go.Proofs.Ytmhmbmogodofeaa.S
set_option autoImplicit false
set_option linter.unusedVariables false
set_option linter.unusedSimpArgs false
set_option maxRecDepth 100000
namespace Go.Proofs.Ytmhmbmogodofeaa.S
open Go.FS Go.RowKit
attribute [local congr] bind_cg cond_cg gd_cg
theorem Grow.ntup {α:Type} {lo z:Nat} {enc:α→List Value} {s:SH} {v:Value} {xs:List α} (h:Grow lo z enc s v xs):∀ a,v≠.tuple a:=by
  rcases h with ⟨_,rfl | rfl⟩ | ⟨id,_,_,rfl,_⟩ <;> intro a h <;> cases h
theorem Grow.one {α:Type} {lo z:Nat} {enc:α→List Value} {s:SH} {v:Value} {xs:List α} (h:Grow lo z enc s v xs):oneC v=true∧v.cells.toList=[v]:=by
  rcases h with ⟨_,rfl | rfl⟩ | ⟨id,_,_,rfl,_⟩ <;> exact ⟨rfl,rfl⟩
theorem strip_sl {n q:Nat} (hq:q≤2) (xs:List Rg):stripN 8 n (sl rg q xs)=sl rg q xs:=by
  rw [strip_sl' (rg_strip n)]
  have:Nat.blt q (n+3)=true:=by rw [blt_dec,decide_eq_true]; omega
  rw [this]; rfl
theorem c46 {n:Nat} {s:SH}:callD Try.prog AT (n+1) (.fn 46) [] s=some [(.pointer (some ⟨s.n+1,0,none⟩),newD (newD s (.map [] 0)) (.row [.map (some s.n)]))]:=by
  rw [call_fn (fn:=Try.f46) rfl rfl (by kernel_rfl)]
  show bodyD Try.prog false _ _ 46 Try.f46 _ s=_
  rw [f46_r]
  have h1:makeMapO Try.prog s 156 none=some (.map (some s.n),newD s (.map [] 0)):=by
    show makeMapD Try.prog s 156=_
    unfold makeMapD; rw [u156]
  have h2:buildD Try.prog 158 [(0,.map (some s.n))]=some (.agg #[.map (some s.n)]):=by kernel_rfl
  have h3:∀ s':SH,boxD s' (.agg #[.map (some s.n)])=some (.pointer (some ⟨s'.n,0,none⟩),newD s' (.row [.map (some s.n)])):=fun s'=>box_at rfl rfl
  simp only [f46,o_bool,o_alloc,o_box,o_build,o_buildSlice,o_load,o_store,o_nilCheck,o_bop,o_uop,o_conv,o_slc,o_fieldAddr,o_field,o_indexAddr,o_index,o_extract,o_lookup,o_mapUpdate,o_delete,o_makeMap,o_len,o_append,o_min,o_max,o_tgt,bindS,many1,jnE,boolS,gdB,fst',snd',o_makeMap,h1,h2,h3,newD_n]
end Go.Proofs.Ytmhmbmogodofeaa.S
set_option autoImplicit false
set_option linter.unusedVariables false
set_option linter.unusedSimpArgs false
namespace Go.Proofs.Ytmhmbmogodofeaa.S
open Go.FS Go.RowKit
def Cn (M:Int):Int→List Rg→Prop
  | _,[]=>True
  | b,y :: l=>b+1<y.1∧y.1≤y.2∧y.2≤M∧Cn M y.2 l
theorem Cn.weak {M b b':Int} {l:List Rg} (h:Cn M b l) (hb:b'≤b):Cn M b' l:=by
  cases l with
  | nil=>trivial
  | cons y l=>exact ⟨by have:=h.1; omega,h.2⟩
def joinR:List Rg→Rg→List Rg
  | [],x=>[x]
  | y :: l,x=>if y.2+1<x.1 then y :: joinR l x else if x.2+1<y.1 then x :: y :: l else joinR l (if y.1<x.1 then y.1 else x.1,if x.2<y.2 then y.2 else x.2)
theorem tou_eq {a b:Int} (h0:0≤a) (h1:a≤35184372088832):tou a b=decide (b≤a+1):=by
  unfold tou; rw [wrap_i64 (by omega) (by omega)]
theorem fold_done {M:Int} (hM:M≤35184372088832):∀ (l:List Rg) (b:Int) (out:List Rg) (x:Rg),Cn M b l→x.2≤b→0≤x.2→x.2≤M→l.foldl jstep (out,true,x)=(out++l,true,x)
  | [],b,out,x,_,_,_,_=>by simp
  | y :: l,b,out,x,h,hx,h0,h1=>by
    obtain ⟨a1,a2,a3,a4⟩:=h
    have k2:tou x.2 y.1=false:=by rw [tou_eq h0 (by omega)]; exact decide_eq_false (by omega)
    have e:jstep (out,true,x) y=(out++[y],true,x):=by
      unfold jstep
      cases tou y.2 x.1 <;> simp [k2]
    rw [List.foldl_cons,e,fold_done hM l y.2 _ x a4 (by omega) h0 h1]; simp
theorem fold_join {M:Int} (hM:M≤35184372088832):∀ (l:List Rg) (b:Int) (out:List Rg) (x:Rg),Cn M b l→-2≤b→0≤x.1→x.1≤x.2→x.2≤M →
    (match l.foldl jstep (out,false,x) with | (out,done,x)=>bif !done then out++[x] else out)=out++joinR l x
  | [],b,out,x,_,_,_,_,_=>rfl
  | y :: l,b,out,x,h,hb,h0,h1,h2=>by
    obtain ⟨a1,a2,a3,a4⟩:=h
    have k1:tou y.2 x.1=decide (x.1≤y.2+1):=tou_eq (by omega) (by omega)
    have k2:tou x.2 y.1=decide (y.1≤x.2+1):=tou_eq (by omega) (by omega)
    rw [List.foldl_cons]
    by_cases q1:y.2+1<x.1
    · have e:jstep (out,false,x) y=(out++[y],false,x):=by
        simp only [jstep]; rw [k1,decide_eq_false (by omega)]; rfl
      rw [e,fold_join hM l y.2 _ x a4 (by omega) h0 h1 h2]
      simp only [joinR,q1,if_true,List.append_assoc,List.singleton_append]
    · by_cases q2:x.2+1<y.1
      · have e:jstep (out,false,x) y=(out++[x]++[y],true,x):=by
          simp only [jstep]; rw [k1,k2,decide_eq_true (by omega),decide_eq_false (by omega)]; rfl
        rw [e,fold_done hM l y.2 _ x a4 (by omega) (by omega) h2]
        simp only [joinR,q1,q2,if_true,if_false,Bool.not_true,cond_false,List.append_assoc,List.singleton_append,List.cons_append,List.nil_append]
      · have e:jstep (out,false,x) y=(out,false,(if y.1<x.1 then y.1 else x.1,if x.2<y.2 then y.2 else x.2)):=by
          simp only [jstep]; rw [k1,k2,decide_eq_true (by omega),decide_eq_true (by omega)]; rfl
        have g0:(0:Int)≤(if y.1<x.1 then y.1 else x.1):=by split <;> omega
        have g1:(if y.1<x.1 then y.1 else x.1)≤(if x.2<y.2 then y.2 else x.2):=by split <;> split <;> omega
        have g2:(if x.2<y.2 then y.2 else x.2)≤M:=by split <;> omega
        rw [e,fold_join hM l b _ _ (a4.weak (by omega)) hb g0 g1 g2]
        simp only [joinR,q1,q2,if_false]
theorem joinR_cn {M:Int}:∀ (l:List Rg) (b:Int) (x:Rg),Cn M b l→b+1<x.1→x.1≤x.2→x.2≤M→Cn M b (joinR l x)
  | [],b,x,_,h0,h1,h2=>⟨h0,h1,h2,trivial⟩
  | y :: l,b,x,h,h0,h1,h2=>by
    obtain ⟨a1,a2,a3,a4⟩:=h
    unfold joinR
    split
    · next q=>exact ⟨a1,a2,a3,joinR_cn l y.2 x a4 q h1 h2⟩
    · split
      · next q=>exact ⟨h0,h1,h2,q,a2,a3,a4⟩
      · exact joinR_cn l b _ (a4.weak (by omega)) (by simp only; split <;> omega) (by simp only; split <;> split <;> omega) (by simp only; split <;> omega)
theorem right5 (r:Rg):rightR r [5]=true↔0≤r.1∧r.1≤r.2∧r.2≤35184372088832:=by
  unfold rightR
  have:rises 0 [5]=true:=by decide
  rw [this]; simp
theorem joinF_R {l:List Rg} {x:Rg} (h:Cn 35184372088832 (-2) l) (hx:rightR x [5]=true):joinF l x=joinR l x:=by
  obtain ⟨h0,h1,h2⟩:=(right5 x).1 hx
  have:=fold_join (Int.le_refl _) l (-2) [] x h (Int.le_refl _) h0 h1 h2
  exact this
end Go.Proofs.Ytmhmbmogodofeaa.S
