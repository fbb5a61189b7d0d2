import Derived.Test.YtmhmbmogodofeaaQR
import Derived.Test.YtmhmbmogodofeaaST
import Derived.Test.YtmhmbmogodofeaaTT
import Derived.Test.YtmhmbmogodofeaaV
set_option linter.unusedVariables false
set_option linter.unusedSimpArgs false
set_option maxRecDepth 100000
namespace Go.Proofs.Ytmhmbmogodofeaa.S
open Go.FS Go.RowKit
open Go.Proofs.Try (prog)
attribute [local congr] bind_cg cond_cg gd_cg
noncomputable abbrev HP:HeapI:=FG fun _=>none
noncomputable def IT:Intr HP:=fun f=>bif Nat.beq f 45 then some yes else none
def cutT (f:Nat):Option (List (Option Nat)):=match f with
 | 20 | 26 | 47 | 48 | 49 | 50 | 55 | 56 | 57 | 58 | 59 | 60 | 61 | 107 | 108 | 110 | 101 | 102 | 103 | 104 | 113 | 124 | 154 | 155=>some [none]
 | _=>none
noncomputable def AT:Ann HP:={ i:=IT,N:=2^64,row:=fun f=>Nat.beq f 210,cut:=cutT }
theorem atA:SA AT:=⟨fun f h1 h2=>by
 show (bif Nat.beq f 45 then some yes else none)=none
 rw [beq_no (by rintro rfl; exact absurd h1 (by decide))]; rfl,fun f h1 h2=>by
 show cutT f=none
 unfold cutT
 split <;> first | exact absurd h1 (by decide) | rfl,fun f h1 h2=>by
 show Nat.beq f 210=false
 exact beq_no (by rintro rfl; exact absurd h1 (by decide))⟩
theorem atB:SB AT:=⟨fun f h=>by rcases h with rfl | rfl | rfl | rfl <;> rfl,fun f h=>by rcases h with rfl | rfl | rfl | rfl <;> rfl,fun f h=>by rcases h with rfl | rfl | rfl | rfl <;> rfl⟩
theorem atC:SC AT:=⟨fun f h=>by rcases h with rfl | rfl | rfl | rfl | rfl | rfl <;> rfl,fun f h=>by rcases h with rfl | rfl | rfl | rfl | rfl <;> rfl,rfl,fun f h=>by rcases h with rfl | rfl | rfl | rfl | rfl <;> rfl,rfl⟩
theorem atN:AT.N=2^64:=rfl
abbrev SH:=St HP
abbrev Rg:=Int×Int
def rg (r:Rg):List Value:=[.int .i64 r.1,.int .i64 r.2]
theorem rg_len (r:Rg):(rg r).length=2:=rfl
def u6 (n:Int):List Value:=[.int .u64 n]
theorem u6_len (n:Int):(u6 n).length=1:=rfl
theorem ib (x y:Int):(x == y)=decide (x=y):=by by_cases h:x=y <;> simp [h]
theorem rg_neq (a b:Rg):bopD prog .neq 69 (.agg (rg a).toArray) (.agg (rg b).toArray)=some (.bool (!decide (a=b))):=by
 refine (bop_agg (P:=prog) (d:=4) (t:=69) (a:=(rg a).toArray) (b:=(rg b).toArray) (r:=decide (a=b)) (by decide) (by kernel_rfl) rfl rfl ?_).2
 have:eqS prog 4 69 (.agg #[.int .i64 a.1,.int .i64 a.2]) (.agg #[.int .i64 b.1,.int .i64 b.2])=cond (a.1 == b.1) (cond (a.2 == b.2) (some true) (some false)) (some false):=by kernel_rfl
 refine Eq.trans this ?_
 rw [ib,ib]
 have e:(a=b)↔a.1=b.1∧a.2=b.2:=Prod.ext_iff
 by_cases h1:a.1=b.1 <;> by_cases h2:a.2=b.2 <;> simp [e,h1,h2]
theorem b_pne {t e:TypeId} (hu:prog.underlying t=some (.pointer e)) (a:Addr):bopD prog .neq t (.pointer (some a)) (.pointer none)=some (.bool true):=by
 simp only [bopD,binD,nilD,hu,nilEq]; rfl
theorem b_mne {t k e:TypeId} (hu:prog.underlying t=some (.map k e)) (m:Nat):bopD prog .neq t (.map (some m)) (.map none)=some (.bool true):=by
 simp only [bopD,binD,nilD,hu,nilEq]; rfl
theorem c104 {n:Nat} {s:SH} (a b:Int):callD prog AT (n+1) (.fn 104) [.int .i64 a,.int .i64 b] s=some [(.bool (decide (b≤IntKind.i64.wrap (a+1))),s)]:=by
 refine cut_call (fn:=Try.f104) rfl rfl (by kernel_rfl) (v:=.bool (decide (b≤IntKind.i64.wrap (a+1)))) (fun _ h=>by cases h) (.bool _) ?_
 show One (bodyD prog false _ _ 104 Try.f104 _ s) _
 rw [f104_r]
 simp only [f104,oO,bindS,many1,jnE,boolS,gdB,fst',snd',bop_add,bop_leq,bindS]
 exact One.ret ⟨rfl,.refl s⟩
def among (a b:Int):Int:=if b<1 then 0 else IntKind.i64.wrap ((IntKind.u64.wrap a).tmod (IntKind.u64.wrap b))
theorem c20 {n:Nat} {s:SH} (a b:Int) (hb:b<2^63):callD prog AT (n+1) (.fn 20) [.int .i64 a,.int .i64 b] s=some [(.int .i64 (among a b),s)]:=by
 refine cut_call (fn:=Try.f20) rfl rfl (by kernel_rfl) (v:=.int .i64 (among a b)) (fun _ h=>by cases h) (.int _ _) ?_
 show One (bodyD prog false _ _ 20 Try.f20 _ s) _
 rw [f20_r]
 simp only [f20,oO,bindS,many1,jnE,boolS,gdB,fst',snd',bop_lss]
 by_cases h:b<1
 · simp only [h,decide_true,condT]
   refine One.ret ⟨?_,.refl s⟩
   unfold among; rw [if_pos h]
 · have hu:IntKind.u64.wrap b=b:=wrap_u64 (by omega) (by omega)
   have hne:IntKind.u64.wrap b≠0:=by rw [hu]; omega
   simp only [h,decide_false,condF,conv_int u3 u70,conv_int u70 u3,bindS,fst',snd',b_rem _ _ _ _ hne]
   refine One.ret ⟨?_,.refl s⟩
   unfold among; rw [if_neg h]
def TombAt (s:SH) (p m:Nat):Prop:=HP.get s.h p=some (.row [.map (some m)])
theorem c101 {n p m:Nat} {s:SH} (h:TombAt s p m):callD prog AT (n+1) (.fn 101) [.pointer (some ⟨p,0,none⟩)] s=some [(.bool true,s)]:=by
 refine cut_call (fn:=Try.f101) rfl rfl (by kernel_rfl) (v:=.bool true) (fun _ h=>by cases h) (.bool _) ?_
 show One (bodyD prog false _ _ 101 Try.f101 _ s) _
 rw [f101_r]
 have hn:nilCheckD (.pointer (some ⟨p,0,none⟩))=some (.pointer (some ⟨p,0,none⟩)):=rfl
 have hl:loadD prog s 156 (.pointer (some ⟨p,0,none⟩))=some (.map (some m)):=by rw [load_row h,part_one a156]; rfl
 simp only [f101,oO,bindS,many1,jnE,boolS,gdB,fst',snd',b_pne u81,condT,hn,fld158_0,hl,b_mne u156]
 exact One.ret ⟨rfl,.refl s⟩
def rises:Int→List Int→Bool
 | _,[]=>true
 | last,x::l=>decide (last<x)&&rises x l
def rightR (r:Rg) (ids:List Int):Bool:=rises 0 ids&&(decide (0≤r.1)&&(decide (r.1≤r.2)&&decide (r.2≤35184372088832)))
theorem c102 {n m:Nat} {s:SH} (r:Rg) (ids:List Int) (hl:ids.length<2^62):callD prog AT (n+1) (.fn 102) [.agg (rg r).toArray,sl u6 m ids] s=some [(.bool (rightR r ids),s)]:=by
 refine cut_call (fn:=Try.f102) rfl rfl (by kernel_rfl) (v:=.bool (rightR r ids)) (fun _ h=>by cases h) (.bool _) ?_
 show One (bodyD prog false _ _ 102 Try.f102 _ s) _
 rw [f102_r]
 have hb:boxD s (.agg (rg r).toArray)=some (.pointer (some ⟨s.n,0,none⟩),newD s (.row (rg r))):=box_at rfl rfl
 have l0:∀ s':SH,HP.get s'.h s.n=some (.row (rg r))→loadD prog s' 3 (.pointer (some ⟨s.n,0,none⟩))=some (.int .i64 r.1):=fun s' h=>by rw [load_row h,part_one a3]; rfl
 have l1:∀ s':SH,HP.get s'.h s.n=some (.row (rg r))→loadD prog s' 3 (.pointer (some ⟨s.n,1,none⟩))=some (.int .i64 r.2):=fun s' h=>by rw [load_row h,part_one a3]; rfl
 simp only [f102,oO,bindS,many1,jnE,boolS,gdB,fst',snd',hb,len_sl u67]
 have hg:HP.get (newD s (.row (rg r))).h s.n=some (.row (rg r)):=get_new rfl
 have he:Ext s (newD s (.row (rg r))):=(Ext.refl s).new _
 generalize newD s (.row (rg r))=s1 at hg he
 refine list_one ids (fun i (x:Value×Value×Value×Value) (s':SH)=>s1=s'∧∃ last:Int,x.2.1=.int .u64 last∧x.1=.bool false∧x.2.2.2=.int .i64 i∧rises 0 ids=rises last (ids.drop i)) ?_ ?_ ⟨rfl,0,rfl,rfl,rfl,rfl⟩ (by show ids.length<2^64; omega)
 · rintro i hi ⟨x1,x2,x3,x4⟩ s' ⟨rfl,last,h1,h2,h3,h4⟩ nx hnx
   simp only at h1 h2 h3
   subst h1 h2 h3
   have hlt:(i:Int)<ids.length:=by omega
   have hw:IntKind.i64.wrap ((i:Int)+1)=((i+1:Nat):Int):=by rw [wrap_i64 (by omega) (by omega)]; rfl
   have hd:ids.drop i=ids[i]::ids.drop (i+1):=List.drop_eq_getElem_cons hi
   have hld:loadD prog s1 70 (fpV (u6 ids[i]).toArray 0)=some (.int .u64 ids[i]):=by rw [load_fp,part_one a70]; rfl
   simp only [f102_l0,oO,bindS,many1,jnE,boolS,gdB,fst',snd',bop_lss,hlt,decide_true,condT,ixs67 u6_len hi,hld,bop_leq,bop_add,hw]
   rw [hd] at h4
   by_cases hq:ids[i]≤last
   · simp only [hq,decide_true,condT]
     refine One.ret ⟨?_,he⟩
     have:rises 0 ids=false:=by rw [h4]; simp only [rises]; rw [decide_eq_false (by omega)]; rfl
     unfold rightR; rw [this]; rfl
   · simp only [hq,decide_false,condF]
     refine hnx _ _ ⟨rfl,ids[i],rfl,rfl,rfl,?_⟩
     rw [h4]; simp only [rises]; rw [decide_eq_true (by omega)]; rfl
 · rintro ⟨x1,x2,x3,x4⟩ s' ⟨rfl,last,h1,h2,h3,h4⟩ nx
   simp only at h1 h2 h3
   subst h1 h2 h3
   have hnlt:¬ ((ids.length:Int)<ids.length):=by omega
   have hr:rises 0 ids=true:=by rw [h4,List.drop_length]; rfl
   simp only [f102_l0,oO,bindS,many1,jnE,boolS,gdB,fst',snd',bop_lss,hnlt,decide_false,condF,beq_yes,condT,fld69_0,fld69_1,l0 s1 hg,l1 s1 hg,bop_geq,bop_leq]
   unfold rightR
   rw [hr]
   by_cases q1:(0:Int)≤r.1
   · have q1':r.1≥(0:Int):=q1
     simp only [q1',q1,decide_true,condT]
     by_cases q2:r.1≤r.2
     · simp only [q2,decide_true,condT]
       exact One.ret ⟨rfl,he⟩
     · simp only [q2,decide_false,condF]
       exact One.ret ⟨rfl,he⟩
   · have q1':¬ r.1≥(0:Int):=q1
     simp only [q1',q1,decide_false,condF]
     exact One.ret ⟨rfl,he⟩
theorem c49 {n m m':Nat} {s:SH} (xs ys:List Rg) (hl:xs.length<2^62):callD prog AT (n+1) (.fn 49) [sl rg m xs,sl rg m' ys] s=some [(.bool (decide (xs=ys)),s)]:=by
 refine cut_call (fn:=Try.f49) rfl rfl (by kernel_rfl) (v:=.bool (decide (xs=ys))) (fun _ h=>by cases h) (.bool _) ?_
 show One (bodyD prog false _ _ 49 Try.f49 _ s) _
 rw [f49_r]
 simp only [f49,oO,bindS,many1,jnE,boolS,gdB,fst',snd',len_sl u80,b_neq]
 by_cases h:xs.length=ys.length
 · have e:((xs.length:Int)=ys.length):=by omega
   simp only [e,decide_true,Bool.not_true,condF]
   refine list_one xs (fun i (x:Value×Value) (s':SH)=>s=s'∧x.1=.bool false∧x.2=.int .i64 i∧xs.take i=ys.take i) ?_ ?_ ⟨rfl,rfl,rfl,rfl⟩ (by show xs.length<2^64; omega)
   · rintro i hi ⟨x1,x2⟩ s' ⟨rfl,h1,h2,h3⟩ nx hnx
     simp only at h1 h2
     subst h1 h2
     have hlt:(i:Int)<xs.length:=by omega
     have hi':i<ys.length:=by omega
     have hw:IntKind.i64.wrap ((i:Int)+1)=((i+1:Nat):Int):=by rw [wrap_i64 (by omega) (by omega)]; rfl
     have hx:∀ r:Rg,loadD prog s 69 (fpV (rg r).toArray 0)=some (.agg (rg r).toArray):=fun r=>by rw [load_fp,part_agg a69 z69 (l:=rg r) rfl rfl]
     simp only [f49_l0,oO,bindS,many1,jnE,boolS,gdB,fst',snd',len_sl u80,bop_lss,hlt,decide_true,condT,ixs80 rg_len hi,ixs80 rg_len hi',hx,rg_neq,bop_add,hw]
     by_cases hq:xs[i]=ys[i]
     · simp only [hq,decide_true,Bool.not_true,condF]
       refine hnx _ _ ⟨rfl,rfl,rfl,?_⟩
       rw [List.take_succ_eq_append_getElem hi,List.take_succ_eq_append_getElem hi',h3,hq]
     · simp only [hq,decide_false,Bool.not_false,condT]
       have hne:xs≠ys:=fun e=>hq (by simp only [e])
       exact One.ret ⟨by rw [decide_eq_false hne],.refl s⟩
   · rintro ⟨x1,x2⟩ s' ⟨rfl,h1,h2,h3⟩ nx
     simp only at h1 h2
     subst h1 h2
     have hnlt:¬ ((xs.length:Int)<xs.length):=by omega
     have hxy:xs=ys:=by rw [List.take_length,h,List.take_length] at h3; exact h3
     simp only [f49_l0,oO,bindS,many1,jnE,boolS,gdB,fst',snd',len_sl u80,bop_lss,hnlt,decide_false,condF,beq_yes,condT]
     exact One.ret ⟨by rw [decide_eq_true hxy],.refl s⟩
 · have e:¬ ((xs.length:Int)=ys.length):=by omega
   have hne:xs≠ys:=fun e=>h (by rw [e])
   simp only [e,decide_false,Bool.not_false,condT]
   exact One.ret ⟨by rw [decide_eq_false hne],.refl s⟩
theorem rg_strip (n:Nat) (r:Rg):(rg r).map (stripN 6 n)=rg r:=rfl
theorem rg_bel (n:Nat) (r:Rg):∀ v∈rg r,Bel n v:=by
 intro v hv
 simp only [rg,List.mem_cons,List.not_mem_nil,or_false] at hv
 rcases hv with rfl | rfl <;> exact .int _ _
def tou (a b:Int):Bool:=decide (b≤IntKind.i64.wrap (a+1))
def jstep (st:List Rg×Bool×Rg) (y:Rg):List Rg×Bool×Rg :=
 match st with
 | (out,done,x) =>
  bif !tou y.2 x.1 then (out++[y],done,x) else
  bif !tou x.2 y.1 then (bif !done then (out++[x]++[y],true,x) else (out++[y],done,x)) else
  (out,done,(if y.1<x.1 then y.1 else x.1,if x.2<y.2 then y.2 else x.2))
def joinF (l:List Rg) (x:Rg):List Rg :=
 match l.foldl jstep ([],false,x) with
 | (out,done,x)=>bif !done then out++[x] else out
theorem jstep_len (st:List Rg×Bool×Rg) (y:Rg):(jstep st y).1.length+(if (jstep st y).2.1 then 0 else 1)≤st.1.length+(if st.2.1 then 0 else 1)+1:=by
 obtain ⟨out,done,x⟩:=st
 cases h1:tou y.2 x.1 <;> cases h2:tou x.2 y.1 <;> cases done <;> simp [jstep,h1,h2]
theorem jfold_len (l:List Rg) (st:List Rg×Bool×Rg):(l.foldl jstep st).1.length+(if (l.foldl jstep st).2.1 then 0 else 1)≤st.1.length+(if st.2.1 then 0 else 1)+l.length:=by
 induction l generalizing st with
 | nil=>exact Nat.le_refl _
 | cons y l ih =>
  have:=ih (jstep st y)
  have:=jstep_len st y
  rw [List.foldl_cons,List.length_cons]; omega
theorem gapp {lo:Nat} {s:SH} {v:Value} {m2:Nat} {xs ys:List Rg} (h:Grow lo 2 rg s v xs) (hlo:lo≤s.n) (hb:(xs.length+ys.length)*16≤140737488355328) :
 ∃ v' s',appD prog false s 160 160 v (sl rg m2 ys)=some (v',s')∧Grow lo 2 rg s' v' (xs++ys)∧Sm lo s s'∧(∀ j,j<s.n→HP.get s.h j≠some (.tok xs.length 2)→HP.get s'.h j=HP.get s.h j) :=
 h.app (i:=Try.t163) hlo u160 u160 (by kernel_rfl) zr163 rfl (by kernel_rfl) (by kernel_rfl) (by decide) rg_len hb (by omega)
theorem bs160 (s:SH) (y:Rg):buildSliceD prog false s 160 1 [(0,.agg (rg y).toArray)]=some (sl rg 1 [y],s):=by kernel_rfl
theorem bld163 (a b:Int):buildD prog 163 [(0,.int .i64 a),(1,.int .i64 b)]=some (.agg (rg (a,b)).toArray):=by kernel_rfl
theorem bld69 (a b:Int):buildD prog 69 [(0,.int .i64 a),(1,.int .i64 b)]=some (.agg (rg (a,b)).toArray):=by kernel_rfl
theorem ld163 {s:SH} {id:Nat} {r:Rg} (h:HP.get s.h id=some (.row (rg r))):loadD prog s 163 (.pointer (some ⟨id,0,none⟩))=some (.agg (rg r).toArray):=by rw [load_row h,part_agg a163 z163 (l:=rg r) rfl rfl]
theorem ld3_0 {s:SH} {id:Nat} {r:Rg} (h:HP.get s.h id=some (.row (rg r))):loadD prog s 3 (.pointer (some ⟨id,0,none⟩))=some (.int .i64 r.1):=by rw [load_row h,part_one a3]; rfl
theorem ld3_1 {s:SH} {id:Nat} {r:Rg} (h:HP.get s.h id=some (.row (rg r))):loadD prog s 3 (.pointer (some ⟨id,1,none⟩))=some (.int .i64 r.2):=by rw [load_row h,part_one a3]; rfl
theorem st163 {s:SH} {id:Nat} {r r':Rg} (h:HP.get s.h id=some (.row (rg r))):storeD prog s 163 (.pointer (some ⟨id,0,none⟩)) (.agg (rg r').toArray)=some (putD s id (.row (rg r'))):=store_row z163 h rfl rfl rfl (by simp [rg])
theorem tgt_fn (f:FuncId) (args:List Value):tgtD (.func (.func f) #[] #[]) args=some (.fn f,args):=by simp [tgtD]
theorem c103 {n m:Nat} {s:SH} (l:List Rg) (x:Rg) (hlen:(l.length+1)*16≤140737488355328):callD prog AT (n+2) (.fn 103) [sl rg m l,.agg (rg x).toArray,.func (.func 104) #[] #[]] s=some [(sl rg 0 (joinF l x),s)]:=by
 have hpos:0<(joinF l x).length:=by
  have:∀ (l:List Rg) (st:List Rg×Bool×Rg),(st.2.1=true→st.1≠[])→((l.foldl jstep st).2.1=true→(l.foldl jstep st).1≠[]):=by
   intro l
   induction l with
   | nil=>intro st h; exact h
   | cons y l ih =>
    intro st h
    refine ih _ ?_
    obtain ⟨out,done,x⟩:=st
    cases h1:tou y.2 x.1 <;> cases h2:tou x.2 y.1 <;> cases done <;> simp [jstep,h1,h2] at h ⊢ <;> exact h
  have h:=this l ([],false,x) (by simp)
  unfold joinF
  revert h
  obtain ⟨out,done,x'⟩:=l.foldl jstep ([],false,x)
  intro h
  cases done with
  | true=>simpa using List.length_pos_iff.2 (h rfl)
  | false=>simp
 suffices h:One (bodyD prog false (callD prog AT (n+1)) AT.N 103 Try.f103 [sl rg m l,.agg (rg x).toArray,.func (.func 104) #[] #[]] s) fun v s'=>Ext s s'∧Grow (s.n+1) 2 rg s' v (joinF l x) by
  obtain ⟨v,s',e,he,hg⟩:=h
  obtain ⟨k,hk,_,hk0⟩:=grow_cut hg (n:=s.n) (by omega) (rg_strip s.n)
  have hk0:=hk0 (List.length_pos_iff.1 hpos)
  subst hk0
  have hv:∀ a,v≠.tuple a:=by
   rcases hg with ⟨h0,_⟩ | ⟨id,_,_,h0,_⟩
   · rw [h0] at hpos; exact absurd hpos (by simp)
   · rw [h0]; intro a h; cases h
  rw [← hk]
  exact cut_call (fn:=Try.f103) rfl rfl (by kernel_rfl) hv (by rw [hk]; exact bel_sl (by omega) (rg_bel s.n)) ⟨v,s',e,rfl,he⟩
 rw [f103_r]
 have hb:boxD s (.agg (rg x).toArray)=some (.pointer (some ⟨s.n,0,none⟩),newD s (.row (rg x))):=box_at rfl rfl
 simp only [f103,oO,bindS,many1,jnE,boolS,gdB,fst',snd',hb,len_sl u160,sl_nil rg]
 have hg:HP.get (newD s (.row (rg x))).h s.n=some (.row (rg x)):=get_new rfl
 have he:Sm s.n s (newD s (.row (rg x))):=(Sm.refl s.n s).new (Nat.le_refl _) _
 have hn:s.n+1≤(newD s (.row (rg x))).n:=by rw [newD_n]; exact Nat.le_refl _
 generalize newD s (.row (rg x))=s1 at hg he hn
 refine list_one l (fun i (y:Value×Value×Value×Value×Value) (s':SH)=>∃ out done xx,(l.take i).foldl jstep ([],false,x)=(out,done,xx)∧y.2.1=.bool done∧y.2.2.1=.int .i64 i∧Sm s.n s s'∧s.n+1≤s'.n∧HP.get s'.h s.n=some (.row (rg xx))∧Grow (s.n+1) 2 rg s' y.1 out) ?_ ?_ ⟨[],false,x,rfl,rfl,rfl,he,hn,hg,.inl ⟨rfl,.inl rfl⟩⟩ (by show l.length<2^64; omega)
 · rintro i hi ⟨y1,y2,y3,y4⟩ s' ⟨out,done,xx,hf,h1,h2,hsm,hn',hrow,hgr⟩ nx hnx
   simp only at h1 h2 hgr
   subst h1 h2
   have hlt:(i:Int)<l.length:=by omega
   have hw:IntKind.i64.wrap ((i:Int)+1)=((i+1:Nat):Int):=by rw [wrap_i64 (by omega) (by omega)]; rfl
   have hld:loadD prog s' 163 (fpV (rg l[i]).toArray 0)=some (.agg (rg l[i]).toArray):=by rw [load_fp,part_agg a163 z163 (l:=rg l[i]) rfl rfl]
   have hal:allocD prog s' 163=some (.pointer (some ⟨s'.n,0,none⟩),newD s' (.row (rg (0,0)))):=alloc_at zr163
   have hst:storeD prog (newD s' (.row (rg (0,0)))) 163 (.pointer (some ⟨s'.n,0,none⟩)) (.agg (rg l[i]).toArray)=some (putD (newD s' (.row (rg (0,0)))) s'.n (.row (rg l[i]))):=st163 (get_new rfl)
   have ha:HP.get (putD (newD s' (.row (rg (0,0)))) s'.n (.row (rg l[i]))).h s'.n=some (.row (rg l[i])):=get_put_same _
   have hx:HP.get (putD (newD s' (.row (rg (0,0)))) s'.n (.row (rg l[i]))).h s.n=some (.row (rg xx)):=by rw [get_put_other (by omega),get_old (by omega),hrow]
   have hsm2:Sm s.n s (putD (newD s' (.row (rg (0,0)))) s'.n (.row (rg l[i]))):=(hsm.new (by omega) _).put (by omega) _
   have hn2:s.n+1≤(putD (newD s' (.row (rg (0,0)))) s'.n (.row (rg l[i]))).n:=by rw [putD_n,newD_n]; omega
   have hgr2:Grow (s.n+1) 2 rg (putD (newD s' (.row (rg (0,0)))) s'.n (.row (rg l[i]))) y1 out:=(hgr.new _).put _ (by rw [get_new rfl]; intro h; cases h)
   have hlt2:s'.n<(putD (newD s' (.row (rg (0,0)))) s'.n (.row (rg l[i]))).n:=by rw [putD_n,newD_n]; omega
   simp only [f103_l0,oO,bindS,many1,jnE,boolS,gdB,fst',snd',bop_lss,hlt,decide_true,condT,ixs160 rg_len hi,hld,hal,hst]
   generalize putD (newD s' (.row (rg (0,0)))) s'.n (.row (rg l[i]))=s2 at ha hx hsm2 hn2 hgr2 hlt2
   have hfs:(l.take (i+1)).foldl jstep ([],false,x)=jstep (out,done,xx) l[i]:=by rw [List.take_succ_eq_append_getElem hi,List.foldl_append,hf]; rfl
   have hol:out.length+(if done then 0 else 1)≤i+1:=by
    have:=jfold_len (l.take i) ([],false,x)
    rw [hf,List.length_take] at this
    simp at this
    have:min i l.length=i:=by omega
    omega
   have t1:=c104 (n:=n) (s:=s2) l[i].2 xx.1
   have t2:=c104 (n:=n) (s:=s2) xx.2 l[i].1
   simp only [fld163_0,fld163_1,ld163 ha,ld163 hx,ld3_0 ha,ld3_1 ha,ld3_0 hx,ld3_1 hx,oO,bindS,many1,jnE,boolS,gdB,fst',snd',tgt_fn,t1,t2,uop_not]
   unfold jstep at hfs
   simp only at hfs
   change _=(bif !tou l[i].2 xx.1 then _ else bif !tou xx.2 l[i].1 then _ else _) at hfs
   have hap:∀ (w:Value) (sw:SH) (o r:List Rg),Grow (s.n+1) 2 rg sw w o→s.n+1≤sw.n→o.length+r.length≤l.length+1→∃ v' s',appD prog false sw 160 160 w (sl rg 1 r)=some (v',s')∧Grow (s.n+1) 2 rg s' v' (o++r)∧Sm (s.n+1) sw s'∧(∀ j,j<sw.n→HP.get sw.h j≠some (.tok o.length 2)→HP.get s'.h j=HP.get sw.h j):=fun w sw o r hq hq2 hq3=>gapp hq hq2 (by have:=Nat.mul_le_mul_right 16 hq3; omega)
   have fin:∀ (w:Value) (sw:SH) (o:List Rg) (d:Bool) (q:Rg) (z:Value) (z2:Value),(l.take (i+1)).foldl jstep ([],false,x)=(o,d,q)→Sm s.n s sw→s.n+1≤sw.n→HP.get sw.h s.n=some (.row (rg q))→Grow (s.n+1) 2 rg sw w o→One (nx (w,.bool d,.int .i64 ((i+1:Nat):Int),z,z2) sw) fun v s'=>Ext s s'∧Grow (s.n+1) 2 rg s' v (joinF l x):=fun w sw o d q z z2 e1 e2 e3 e4 e5=>hnx _ _ ⟨o,d,q,e1,rfl,rfl,e2,e3,e4,e5⟩
   cases k1:tou l[i].2 xx.1 with
   | false =>
    have k1':decide (xx.1≤IntKind.i64.wrap (l[i].2+1))=false:=k1
    rw [k1] at hfs
    simp only [Bool.not_false,cond_true] at hfs
    obtain ⟨v',s3,e1,g1,g2,g3⟩:=hap y1 s2 out [l[i]] hgr2 hn2 (by simp; split at hol <;> omega)
    simp only [k1',Bool.not_false,condT,bs160,oO,bindS,many1,jnE,boolS,gdB,fst',snd',e1,bop_add,hw]
    exact fin _ _ _ _ _ _ _ hfs (hsm2.trans ⟨g2.1,fun j hj=>g2.2 j (by omega)⟩) (by have:=g2.1; omega) (by rw [g2.2 _ (by omega),hx]) g1
   | true =>
    have k1':decide (xx.1≤IntKind.i64.wrap (l[i].2+1))=true:=k1
    rw [k1] at hfs
    simp only [Bool.not_true,cond_false] at hfs
    cases k2:tou xx.2 l[i].1 with
    | false =>
     have k2':decide (l[i].1≤IntKind.i64.wrap (xx.2+1))=false:=k2
     rw [k2] at hfs
     simp only [Bool.not_false,cond_true] at hfs
     cases done with
     | true =>
      simp only [Bool.not_true,cond_false] at hfs
      obtain ⟨v',s3,e1,g1,g2,g3⟩:=hap y1 s2 out [l[i]] hgr2 hn2 (by simp at hol ⊢; omega)
      simp only [k1',k2',Bool.not_true,Bool.not_false,condT,condF,ld163 ha,bs160,oO,bindS,many1,jnE,boolS,gdB,fst',snd',e1,bop_add,hw]
      exact fin _ _ _ _ _ _ _ hfs (hsm2.trans ⟨g2.1,fun j hj=>g2.2 j (by omega)⟩) (by have:=g2.1; omega) (by rw [g2.2 _ (by omega),hx]) g1
     | false =>
      simp only [Bool.not_false,cond_true] at hfs
      obtain ⟨v',s3,e1,g1,g2,g3⟩:=hap y1 s2 out [xx] hgr2 hn2 (by simp at hol ⊢; omega)
      have ha3:HP.get s3.h s'.n=some (.row (rg l[i])):=by rw [g3 _ hlt2 (by rw [ha]; intro h; cases h),ha]
      obtain ⟨v'',s4,f1,f2,f3,f4⟩:=hap v' s3 (out++[xx]) [l[i]] g1 (by have:=g2.1; omega) (by simp at hol ⊢; omega)
      simp only [k1',k2',Bool.not_true,Bool.not_false,condT,condF,ld163 ha3,bs160,oO,bindS,many1,jnE,boolS,gdB,fst',snd',e1,f1,bop_add,hw]
      exact fin _ _ _ _ _ _ _ hfs (hsm2.trans ⟨Nat.le_trans g2.1 f3.1,fun j hj=>(f3.2 j (by omega)).trans (g2.2 j (by omega))⟩) (by have:=g2.1; have:=f3.1; omega) (by rw [f3.2 _ (by omega),g2.2 _ (by omega),hx]) f2
    | true =>
     have k2':decide (l[i].1≤IntKind.i64.wrap (xx.2+1))=true:=k2
     rw [k2] at hfs
     simp only [Bool.not_true,cond_false] at hfs
     simp only [k1',k2',Bool.not_true,condF,min_int,max_int,bld163,st163 hx,oO,bindS,many1,jnE,boolS,gdB,fst',snd',bop_add,hw]
     exact fin _ _ _ _ _ _ _ hfs (hsm2.put (Nat.le_refl _) _) (by rw [putD_n]; omega) (get_put_same _) (hgr2.put _ (by rw [hx]; intro h; cases h))
 · rintro ⟨y1,y2,y3,y4⟩ s' ⟨out,done,xx,hf,h1,h2,hsm,hn',hrow,hgr⟩ nx
   simp only at h1 h2 hgr
   subst h1 h2
   have hnlt:¬ ((l.length:Int)<l.length):=by omega
   rw [List.take_length] at hf
   have hjf:joinF l x=bif !done then out++[xx] else out:=by unfold joinF; rw [hf]
   simp only [f103_l0,oO,bindS,many1,jnE,boolS,gdB,fst',snd',bop_lss,hnlt,decide_false,condF,beq_yes,condT,uop_not]
   cases done with
   | true =>
    simp only [Bool.not_true,condF]
    refine One.ret ⟨hsm,?_⟩
    rw [hjf]; exact hgr
   | false =>
    have hol:out.length+1≤l.length+1:=by
     have:=jfold_len l ([],false,x)
     rw [hf] at this
     simp at this; omega
    obtain ⟨v',s3,e1,g1,g2,g3⟩:=gapp (m2:=1) (ys:=[xx]) hgr hn' (by have:=Nat.mul_le_mul_right 16 hol; simpa using (by omega))
    simp only [Bool.not_false,condT,ld163 hrow,bs160,oO,bindS,many1,jnE,boolS,gdB,fst',snd',e1]
    refine One.ret ⟨hsm.trans ⟨g2.1,fun j hj=>g2.2 j (by omega)⟩,?_⟩
    rw [hjf]; exact g1
end Go.Proofs.Ytmhmbmogodofeaa.S
namespace Go.Proofs.Ytmhmbmogodofeaa.S
open Go.FS Go.RowKit
open Go.Proofs.Try (prog)
attribute [local congr] bind_cg cond_cg gd_cg
abbrev En:=Int×List Rg×Nat
def ent (e:En):Value×Value×Nat:=(.int .u64 e.1,sl rg 0 e.2.1,e.2.2)
def lk:List En→Int→List Rg
 | [],_=>[]
 | e::l,k=>if e.1=k then e.2.1 else lk l k
def upE:List En→Nat→Int→List Rg→List En×Nat
 | [],c,k,l=>([(k,l,c)],c+1)
 | e::es,c,k,l=>if e.1=k then ((k,l,e.2.2)::es,c) else (e::(upE es c k l).1,(upE es c k l).2)
theorem find_lk:∀ (es:List En) (k:Int) (i:Nat),(∃ j e,findD (.int .u64 k) (es.map ent) i=some (some (i+j,sl rg 0 (lk es k)))∧es[j]?=some e∧e.1=k∧(∀ c l,upE es c k l=(es.set j (k,l,e.2.2),c)))∨(findD (.int .u64 k) (es.map ent) i=some none∧lk es k=[]∧∀ c l,upE es c k l=(es++[(k,l,c)],c+1))
 | [],k,i=>.inr ⟨rfl,rfl,fun _ _=>rfl⟩
 | e::es,k,i=>by
  have hk:keyEq (.int .u64 k) (.int .u64 e.1)=some (decide (k=e.1)):=rfl
  have hf:findD (.int .u64 k) ((e::es).map ent) i=(keyEq (.int .u64 k) (.int .u64 e.1)).bind fun b=>cond b (some (some (i,sl rg 0 e.2.1))) (findD (.int .u64 k) (es.map ent) (i+1)):=rfl
  rw [hf,hk,bindS]
  by_cases h:e.1=k
  · left
    refine ⟨0,e,?_,rfl,h,fun c l=>?_⟩
    · rw [decide_eq_true h.symm,condT]; simp only [lk,h,if_true]; rfl
    · simp only [upE,h,if_true,List.set_cons_zero]
  · rw [decide_eq_false (fun e=>h e.symm),condF]
    rcases find_lk es k (i+1) with ⟨j,e',h1,h2,h3,h4⟩ | ⟨h1,h2,h3⟩
    · left
      refine ⟨j+1,e',?_,h2,h3,fun c l=>?_⟩
      · rw [h1]; simp only [lk,h,if_false]; congr 3; omega
      · simp only [upE,h,if_false,h4,List.set_cons_succ]
    · right
      refine ⟨h1,?_,fun c l=>?_⟩
      · simp only [lk,h,if_false,h2]
      · simp only [upE,h,if_false,h3,List.cons_append]
theorem keyFit70 (k:Int):keyFit prog 70 (.int .u64 k)=true:=by unfold keyFit; rw [u70]
theorem lookup_lk {s:SH} {m c:Nat} {es:List En} (h:HP.get s.h m=some (.map (es.map ent) c)) (k:Int):∃ q,(q=0∨q=2)∧lookupD prog s 156 (.map (some m)) (.int .u64 k) false=some (sl rg q (lk es k)):=by
 have e:lookupD prog s 156 (.map (some m)) (.int .u64 k) false=(findD (.int .u64 k) (es.map ent) 0).bind fun r=>(match r with | some (_,v)=>some (v,true) | none=>(zeroV prog 160).map fun v=>(v,false)).map fun (p:Value×Bool)=>cond false (.tuple #[p.1,.bool p.2]) p.1:=by
  unfold lookupD
  rw [u156]
  simp only [keyFit70,condT,map_of h,bindS]
  rfl
 rcases find_lk es k 0 with ⟨j,e',h1,h2,h3,h4⟩ | ⟨h1,h2,h3⟩
 · exact ⟨0,.inl rfl,by rw [e,h1,bindS]; rfl⟩
 · exact ⟨2,.inr rfl,by rw [e,h1,bindS,zv160,h2]; rfl⟩
theorem update_lk {s:SH} {m c:Nat} {es:List En} (h:HP.get s.h m=some (.map (es.map ent) c)) (k:Int) (l:List Rg):mapUpdateD prog s 156 (.map (some m)) (.int .u64 k) (sl rg 0 l)=some (putD s m (.map ((upE es c k l).1.map ent) (upE es c k l).2)):=by
 have e:mapUpdateD prog s 156 (.map (some m)) (.int .u64 k) (sl rg 0 l)=(findD (.int .u64 k) (es.map ent) 0).bind fun r=>match r with
  | some (i,_)=>((es.map ent)[i]?).map fun e=>putD s m (.map ((es.map ent).set i (.int .u64 k,sl rg 0 l,e.2.2)) c)
  | none=>some (putD s m (.map ((es.map ent)++[(.int .u64 k,sl rg 0 l,c)]) (c+1))):=by
  unfold mapUpdateD
  rw [u156]
  simp only [keyFit70,condT,map_of h,bindS]
  rfl
 rcases find_lk es k 0 with ⟨j,e',h1,h2,h3,h4⟩ | ⟨h1,h2,h3⟩
 · rw [e,h1,bindS]
   simp only [Nat.zero_add]
   rw [List.getElem?_map,h2]
   simp only [Option.map_some,h4,List.map_set]
   rfl
 · rw [e,h1,bindS,h3]
   simp only [List.map_append]
   rfl
def addE (es:List En) (c:Nat) (r:Rg) (ids:List Int):List En×Nat:=ids.foldl (fun p k=>upE p.1 p.2 k (joinF (lk p.1 k) r)) (es,c)
def most (es:List En) (B:Nat):Prop:=∀ e∈es,e.2.1.length≤B
theorem most_lk {es:List En} {B:Nat} (h:most es B) (k:Int):(lk es k).length≤B:=by
 induction es with
 | nil=>exact Nat.zero_le _
 | cons e es ih =>
  unfold lk
  split
  · exact h e (List.mem_cons_self ..)
  · exact ih fun e he=>h e (List.mem_cons_of_mem _ he)
theorem joinF_len (l:List Rg) (x:Rg):(joinF l x).length≤l.length+1:=by
 have:=jfold_len l ([],false,x)
 unfold joinF
 revert this
 obtain ⟨out,done,x'⟩:=l.foldl jstep ([],false,x)
 cases done <;> simp <;> omega
theorem most_up {es:List En} {B:Nat} (h:most es B) (c:Nat) (k:Int) (l:List Rg) (hl:l.length≤B):most (upE es c k l).1 B:=by
 induction es with
 | nil=>intro e he; simp only [upE,List.mem_singleton] at he; rw [he]; exact hl
 | cons e es ih =>
  have ih:=ih fun e he=>h e (List.mem_cons_of_mem _ he)
  unfold upE
  split
  · intro e' he
    rcases List.mem_cons.1 he with rfl | he
    · exact hl
    · exact h e' (List.mem_cons_of_mem _ he)
  · intro e' he
    rcases List.mem_cons.1 he with rfl | he
    · exact h _ (List.mem_cons_self ..)
    · exact ih e' he
theorem eqO_same (v:Value):eqO HP (some v) v=true:=by simp [eqO,FG]
theorem bel_ent (n:Nat) (es:List En):∀ e∈es.map ent,Bel n e.1∧Bel n e.2.1:=by
 intro e he
 obtain ⟨x,_,rfl⟩:=List.mem_map.1 he
 exact ⟨.int _ _,bel_sl (by omega) (rg_bel n)⟩
theorem c47 {n p m c mm B:Nat} {s:SH} {es:List En} (ht:TombAt s p m) (hm:HP.get s.h m=some (.map (es.map ent) c)) (hp:p<s.n) (hmn:m<s.n) (r:Rg) (ids:List Int) (hB:most es B) (hbd:(B+ids.length+1)*16≤140737488355328) :
 callD prog AT (n+3) (.fn 47) [.pointer (some ⟨p,0,none⟩),.agg (rg r).toArray,sl u6 mm ids] s=some [(.int .i64 (if rightR r ids then 0 else 2),if rightR r ids then putD s m (.map ((addE es c r ids).1.map ent) (addE es c r ids).2) else s)]:=by
 have hpm:p≠m:=by rintro rfl; unfold TombAt at ht; rw [ht] at hm; cases hm
 -- the run
 suffices h:∃ s',bodyD prog false (callD prog AT (n+2)) AT.N 47 Try.f47 [.pointer (some ⟨p,0,none⟩),.agg (rg r).toArray,sl u6 mm ids] s=some [(.int .i64 (if rightR r ids then 0 else 2),s')]∧s.n≤s'.n∧(∀ j,j<s.n→j≠m→HP.get s'.h j=HP.get s.h j)∧HP.get s'.h m=some (if rightR r ids then .map ((addE es c r ids).1.map ent) (addE es c r ids).2 else .map (es.map ent) c) by
  obtain ⟨s',e,h1,h2,h3⟩:=h
  rw [call_cut (fl:=[none]) (fn:=Try.f47) rfl rfl (by kernel_rfl)]
  show ((bodyD prog false _ _ 47 Try.f47 _ s).bind _)=_
  rw [e,bindS]
  have hmrg:mrg s s'=if rightR r ids then putD s m (.map ((addE es c r ids).1.map ent) (addE es c r ids).2) else s:=by
   have e1:mrg s s'=putD s m (if rightR r ids then .map ((addE es c r ids).1.map ent) (addE es c r ids).2 else .map (es.map ent) c):=mrg_put hmn h1 h2 h3
   rw [e1]
   cases rightR r ids with
   | true=>rfl
   | false=>exact put_same hm
  have hb:BelO s.n (HP.get s'.h m):=by
   rw [h3]
   split <;> exact bel_ent _ _
  rw [cut_at (fun j hj=>if e:j=m then .inr (by rw [e]; exact hb) else .inl (h2 j hj e)) h1 (fun _ h=>by cases h) (.int _ _),hmrg]
  rfl
 rw [f47_r]
 have hb:boxD s (.agg (rg r).toArray)=some (.pointer (some ⟨s.n,0,none⟩),newD s (.row (rg r))):=box_at rfl rfl
 have hg:HP.get (newD s (.row (rg r))).h s.n=some (.row (rg r)):=get_new rfl
 have ho:∀ j,j<s.n→HP.get (newD s (.row (rg r))).h j=HP.get s.h j:=fun j hj=>get_old (by omega)
 have hn:(newD s (.row (rg r))).n=s.n+1:=newD_n _ _
 simp only [f47,oO,bindS,many1,jnE,boolS,gdB,fst',snd',hb]
 generalize newD s (.row (rg r))=s1 at hg ho hn
 have ht1:TombAt s1 p m:=by unfold TombAt; rw [ho p hp]; exact ht
 have hld:loadD prog s1 69 (.pointer (some ⟨s.n,0,none⟩))=some (.agg (rg r).toArray):=by rw [load_row hg,part_agg a69 z69 (l:=rg r) rfl rfl]
 simp only [c101 ht1,oO,bindS,many1,jnE,boolS,gdB,fst',snd',uop_not,Bool.not_true,condF,hld,c102 (n:=n+1) r ids (by omega)]
 cases hr:rightR r ids with
 | false =>
  simp only [Bool.not_false,condT]
  refine ⟨s1,rfl,by omega,fun j hj _=>ho j hj,?_⟩
  rw [ho m hmn]; exact hm
 | true =>
  simp only [Bool.not_true,condF,len_sl u67,bindS,if_true]
  refine list_rule ids (fun i (x:Value×Value) (s':SH)=>x.2=.int .i64 i∧s'.n=s1.n∧(∀ j,j≠m→HP.get s'.h j=HP.get s1.h j)∧HP.get s'.h m=some (.map ((addE es c r (ids.take i)).1.map ent) (addE es c r (ids.take i)).2)∧most (addE es c r (ids.take i)).1 (B+i)) (fun (q:Option (List (Value×SH)))=>∃ s',q=some [(.int .i64 0,s')]∧s.n≤s'.n∧(∀ j,j<s.n→j≠m→HP.get s'.h j=HP.get s.h j)∧HP.get s'.h m=some (.map ((addE es c r ids).1.map ent) (addE es c r ids).2)) ?_ ?_ ?h0 (by show ids.length<2^64; omega)
  case h0=>exact ⟨rfl,rfl,fun _ _=>rfl,by rw [ho m hmn]; exact hm,hB⟩
  · rintro i hi ⟨x1,x2⟩ s' ⟨h1,h2,h3,h4,h5⟩ nx hnx
    simp only at h1
    subst h1
    have hlt:(i:Int)<ids.length:=by omega
    have hw:IntKind.i64.wrap ((i:Int)+1)=((i+1:Nat):Int):=by rw [wrap_i64 (by omega) (by omega)]; rfl
    have hidl:loadD prog s' 70 (fpV (u6 ids[i]).toArray 0)=some (.int .u64 ids[i]):=by rw [load_fp,part_one a70]; rfl
    have hn1:nilCheckD (.pointer (some ⟨p,0,none⟩))=some (.pointer (some ⟨p,0,none⟩)):=rfl
    have ht2:HP.get s'.h p=some (.row [.map (some m)]):=by rw [h3 p hpm]; exact ht1
    have hl:loadD prog s' 156 (.pointer (some ⟨p,0,none⟩))=some (.map (some m)):=by rw [load_row ht2,part_one a156]; rfl
    have hsn:s.n≠m:=by omega
    have hrow:HP.get s'.h s.n=some (.row (rg r)):=by rw [h3 s.n hsn,hg]
    obtain ⟨q,_,hlk⟩:=lookup_lk h4 ids[i]
    have hlen:((lk (addE es c r (ids.take i)).1 ids[i]).length+1)*16≤140737488355328:=by
     have:=most_lk h5 ids[i]
     have h8:(lk (addE es c r (ids.take i)).1 ids[i]).length+1≤B+ids.length+1:=by omega
     exact Nat.le_trans (Nat.mul_le_mul_right 16 h8) hbd
    have hj:=c103 (n:=n) (s:=s') (m:=q) (lk (addE es c r (ids.take i)).1 ids[i]) r hlen
    have hone:oneO (callD prog AT (n+2)) (.fn 103) [sl rg q (lk (addE es c r (ids.take i)).1 ids[i]),.agg (rg r).toArray,.func (.func 104) #[] #[]] s'=some (sl rg 0 (joinF (lk (addE es c r (ids.take i)).1 ids[i]) r),s'):=oneS hj
    have hup:=update_lk h4 ids[i] (joinF (lk (addE es c r (ids.take i)).1 ids[i]) r)
    simp only [f47_l0,oO,bindS,many1,jnE,boolS,gdB,fst',snd',bop_lss,hlt,decide_true,condT,ixs67 u6_len hi,hidl,hn1,fld158_0,hl,hlk,fld69_0,fld69_1,ld3_0 hrow,ld3_1 hrow,bld163,hone,hup,eqO_same,Bool.and_self,bop_add,hw]
    have hstep:addE es c r (ids.take (i+1))=upE (addE es c r (ids.take i)).1 (addE es c r (ids.take i)).2 ids[i] (joinF (lk (addE es c r (ids.take i)).1 ids[i]) r):=by
     unfold addE
     rw [List.take_succ_eq_append_getElem hi,List.foldl_append]; rfl
    refine hnx (_,_) _ ⟨rfl,?_,fun j hj=>?_,?_,?_⟩
    · rw [putD_n]; exact h2
    · rw [get_put_other hj,h3 j hj]
    · rw [get_put_same,hstep]
    · rw [hstep]
      refine most_up (fun e he=>Nat.le_succ_of_le (h5 e he)) _ _ _ ?_
      have:=joinF_len (lk (addE es c r (ids.take i)).1 ids[i]) r
      have:=most_lk h5 ids[i]
      omega
  · rintro ⟨x1,x2⟩ s' ⟨h1,h2,h3,h4,h5⟩ nx
    simp only at h1
    subst h1
    have hnlt:¬ ((ids.length:Int)<ids.length):=by omega
    simp only [f47_l0,oO,bindS,many1,jnE,boolS,gdB,fst',snd',bop_lss,hnlt,decide_false,condF,beq_yes,condT]
    rw [List.take_length] at h4
    exact ⟨s',rfl,by omega,fun j hj hjm=>by rw [h3 j hjm,ho j hj],h4⟩
end Go.Proofs.Ytmhmbmogodofeaa.S
namespace Go.Proofs.Ytmhmbmogodofeaa.S
open Go.FS Go.RowKit
open Go.Proofs.Try (prog)
attribute [local congr] bind_cg cond_cg gd_cg
theorem c105 {n p:Nat} {k:Int} {s:SH}:callD prog AT (n+1) (.fn 105) [.pointer (some ⟨p,0,none⟩),.int .u64 k] s=some [(.func (.func 153) #[] #[.pointer (some ⟨s.n,0,none⟩),.pointer (some ⟨s.n+1,0,none⟩)],newD (newD s (.row [.pointer (some ⟨p,0,none⟩)])) (.row [.int .u64 k]))]:=by
 rw [call_fn (fn:=Try.f105) rfl rfl (by kernel_rfl)]
 show bodyD prog false _ _ 105 Try.f105 _ s=_
 rw [f105_r]
 have h1:∀ s:SH,boxD s (.pointer (some ⟨p,0,none⟩))=some (.pointer (some ⟨s.n,0,none⟩),newD s (.row [.pointer (some ⟨p,0,none⟩)])):=fun s=>box_at rfl rfl
 have h2:∀ s:SH,boxD s (.int .u64 k)=some (.pointer (some ⟨s.n,0,none⟩),newD s (.row [.int .u64 k])):=fun s=>box_at rfl rfl
 simp only [f105,oO,bindS,many1,jnE,boolS,gdB,fst',snd',h1,h2,newD_n]
theorem c153 {n l a1 a2 p m c:Nat} {k:Int} {s:SH} {es:List En} (h1:HP.get s.h a1=some (.row [.pointer (some ⟨p,0,none⟩)])) (h2:HP.get s.h a2=some (.row [.int .u64 k])) (ht:TombAt s p m) (hm:HP.get s.h m=some (.map (es.map ent) c)) (hlen:(lk es k).length<2^62) (J:Nat→SH→Prop) (K:SH→Prop) (h0:J 0 s)
 (hstep:∀ i (hi:i<(lk es k).length) s',J i s'→∃ b s3,callD prog AT (n+1) (.yld l) [.agg (rg (lk es k)[i]).toArray] (putD (newD s' (.row (rg (0,0)))) s'.n (.row (rg (lk es k)[i])))=some [(.bool b,s3)]∧(b=true→J (i+1) s3)∧(b=false→K s3)) :
 One (callD prog AT (n+2) (.fn 153) [.func (.yield l) #[] #[],.pointer (some ⟨a1,0,none⟩),.pointer (some ⟨a2,0,none⟩)] s) fun _ s'=>K s'∨J (lk es k).length s':=by
 rw [call_fn (fn:=Try.f153) rfl rfl (by kernel_rfl)]
 show One (bodyD prog false _ _ 153 Try.f153 _ s) _
 rw [f153_r]
 have e1:loadD prog s 81 (.pointer (some ⟨a1,0,none⟩))=some (.pointer (some ⟨p,0,none⟩)):=by rw [load_row h1,part_one a81]; rfl
 have e2:loadD prog s 70 (.pointer (some ⟨a2,0,none⟩))=some (.int .u64 k):=by rw [load_row h2,part_one a70]; rfl
 have hn:nilCheckD (.pointer (some ⟨p,0,none⟩))=some (.pointer (some ⟨p,0,none⟩)):=rfl
 have e3:loadD prog s 156 (.pointer (some ⟨p,0,none⟩))=some (.map (some m)):=by rw [load_row ht,part_one a156]; rfl
 obtain ⟨q,_,hlk⟩:=lookup_lk hm k
 simp only [f153,oO,bindS,many1,jnE,boolS,gdB,fst',snd',e1,e2,c101 ht,uop_not,Bool.not_true,condF,hn,fld158_0,e3,hlk,len_sl u160]
 generalize lk es k=xs at hstep hlen
 refine list_one xs (fun i (x:Value) (s':SH)=>x=.int .i64 i∧J i s') ?_ ?_ ⟨rfl,h0⟩ (by show xs.length<2^64; omega)
 · rintro i hi x s' ⟨rfl,hJ⟩ nx hnx
   have hlt:(i:Int)<xs.length:=by omega
   have hw:IntKind.i64.wrap ((i:Int)+1)=((i+1:Nat):Int):=by rw [wrap_i64 (by omega) (by omega)]; rfl
   have hld:loadD prog s' 163 (fpV (rg xs[i]).toArray 0)=some (.agg (rg xs[i]).toArray):=by rw [load_fp,part_agg a163 z163 (l:=rg xs[i]) rfl rfl]
   have hal:allocD prog s' 163=some (.pointer (some ⟨s'.n,0,none⟩),newD s' (.row (rg (0,0)))):=alloc_at zr163
   have hst:storeD prog (newD s' (.row (rg (0,0)))) 163 (.pointer (some ⟨s'.n,0,none⟩)) (.agg (rg xs[i]).toArray)=some (putD (newD s' (.row (rg (0,0)))) s'.n (.row (rg xs[i]))):=st163 (get_new rfl)
   have ha:HP.get (putD (newD s' (.row (rg (0,0)))) s'.n (.row (rg xs[i]))).h s'.n=some (.row (rg xs[i])):=get_put_same _
   obtain ⟨b,s3,hy,hy1,hy2⟩:=hstep i hi s' hJ
   simp only [f153_l0,oO,bindS,many1,jnE,boolS,gdB,fst',snd',bop_lss,hlt,decide_true,condT,ixs160 rg_len hi,hld,hal,hst,fld163_0,fld163_1,ld3_0 ha,ld3_1 ha,bld69,tgt_yld,hy,uop_not]
   cases b with
   | true =>
    simp only [Bool.not_true,condF,bop_add,hw]
    exact hnx _ _ ⟨rfl,hy1 rfl⟩
   | false =>
    simp only [Bool.not_false,condT]
    exact One.ret (.inl (hy2 rfl))
 · rintro x s' ⟨rfl,hJ⟩ nx
   have hnlt:¬ ((xs.length:Int)<xs.length):=by omega
   simp only [f153_l0,oO,bindS,many1,jnE,boolS,gdB,fst',snd',bop_lss,hnlt,decide_false,condF,beq_yes,condT]
   exact One.ret (.inr hJ)
def cov (xs:List Rg) (t:Int):Bool:=xs.any fun r=>decide (t≥r.1)&&decide (t≤r.2)
theorem bodied153:bodied prog 153=true:=by kernel_rfl
theorem c48 {n p m c:Nat} {k t:Int} {s:SH} {es:List En} (ht:TombAt s p m) (hm:HP.get s.h m=some (.map (es.map ent) c)) (hp:p<s.n) (hmn:m<s.n) (hlen:(lk es k).length<2^62) :
 callD prog AT (n+3) (.fn 48) [.pointer (some ⟨p,0,none⟩),.int .u64 k,.int .i64 t] s=some [(.bool (cov (lk es k) t),s)]:=by
 refine cut_call (fn:=Try.f48) rfl rfl (by kernel_rfl) (v:=.bool (cov (lk es k) t)) (fun _ h=>by cases h) (.bool _) ?_
 show One (bodyD prog false _ _ 48 Try.f48 _ s) _
 rw [f48_r]
 have hb:boxD s (.int .i64 t)=some (.pointer (some ⟨s.n,0,none⟩),newD s (.row [.int .i64 t])):=box_at rfl rfl
 have hal:allocD prog (newD s (.row [.int .i64 t])) 4=some (.pointer (some ⟨s.n+1,0,none⟩),newD (newD s (.row [.int .i64 t])) (.row [.bool false])):=alloc_at zr4
 simp only [f48,oO,bindS,many1,jnE,boolS,gdB,fst',snd',hb,hal,c105,newD_n]
 have g0:∀ o1 o2,HP.get (newD (newD (newD (newD s (.row [.int .i64 t])) (.row [.bool false])) o1) o2).h s.n=some (.row [.int .i64 t]):=fun o1 o2=>by
  rw [get_old (by simp only [newD_n]; omega),get_old (by simp only [newD_n]; omega),get_old (by simp only [newD_n]; omega),get_new rfl]
 have g1:∀ o1 o2,HP.get (newD (newD (newD (newD s (.row [.int .i64 t])) (.row [.bool false])) o1) o2).h (s.n+1)=some (.row [.bool false]):=fun o1 o2=>by
  rw [get_old (by simp only [newD_n]; omega),get_old (by simp only [newD_n]; omega),get_new (by simp only [newD_n])]
 have g2:∀ o1 o2,HP.get (newD (newD (newD (newD s (.row [.int .i64 t])) (.row [.bool false])) o1) o2).h (s.n+1+1)=some o1:=fun o1 o2=>by
  rw [get_old (by simp only [newD_n]; omega),get_new (by simp only [newD_n])]
 have g3:∀ o1 o2,HP.get (newD (newD (newD (newD s (.row [.int .i64 t])) (.row [.bool false])) o1) o2).h (s.n+1+1+1)=some o2:=fun o1 o2=>get_new (by simp only [newD_n])
 have gs:∀ o1 o2,Sm s.n s (newD (newD (newD (newD s (.row [.int .i64 t])) (.row [.bool false])) o1) o2):=fun o1 o2=>(((((Sm.refl s.n s).new (Nat.le_refl _) _).new (by simp only [newD_n]; omega) _).new (by simp only [newD_n]; omega) _).new (by simp only [newD_n]; omega) _)
 have gn:∀ o1 o2,(newD (newD (newD (newD s (.row [.int .i64 t])) (.row [.bool false])) o1) o2).n=s.n+4:=fun o1 o2=>by simp only [newD_n]
 have g0:=g0 (.row [.pointer (some ⟨p,0,none⟩)]) (.row [.int .u64 k])
 have g1:=g1 (.row [.pointer (some ⟨p,0,none⟩)]) (.row [.int .u64 k])
 have g2:=g2 (.row [.pointer (some ⟨p,0,none⟩)]) (.row [.int .u64 k])
 have g3:=g3 (.row [.pointer (some ⟨p,0,none⟩)]) (.row [.int .u64 k])
 have gs:=gs (.row [.pointer (some ⟨p,0,none⟩)]) (.row [.int .u64 k])
 have gn:=gn (.row [.pointer (some ⟨p,0,none⟩)]) (.row [.int .u64 k])
 generalize newD (newD (newD (newD s (.row [.int .i64 t])) (.row [.bool false])) (.row [.pointer (some ⟨p,0,none⟩)])) (.row [.int .u64 k])=s5 at g0 g1 g2 g3 gs gn
 -- what the iteration leaves
 generalize htl:[Value.pointer (some ⟨p,0,none⟩),_,_,_,_,_,_,_,_,_,_,_,_,_,_,_,_,_,_,_,_,_]=tl
 have hrun:=c153 (n:=n) (l:=s5.n) (a1:=s.n+1+1) (a2:=s.n+1+1+1) (p:=p) (m:=m) (c:=c) (k:=k) (es:=es) (s:=newD s5 (.loop 0 none 48 tl [11] (cdp Try.f48 [1,0,1,0,0]) (cdp Try.f48 [1,0,1,0,1])))
  (by rw [get_old (by omega)]; exact g2) (by rw [get_old (by omega)]; exact g3) (by unfold TombAt; rw [get_old (by omega),gs.2 p hp]; exact ht) (by rw [get_old (by omega),gs.2 m hmn]; exact hm) hlen
  (fun i s'=>Sm (s5.n+1) (newD s5 (.loop 0 none 48 tl [11] (cdp Try.f48 [1,0,1,0,0]) (cdp Try.f48 [1,0,1,0,1]))) s'∧cov ((lk es k).take i) t=false)
  (fun s'=>Sm s.n s s'∧HP.get s'.h (s.n+1)=some (.row [.bool true])∧HP.get s'.h s5.n=some (.loop 2 (some .ret) 48 tl [11] (cdp Try.f48 [1,0,1,0,0]) (cdp Try.f48 [1,0,1,0,1]))∧cov (lk es k) t=true)
  ⟨.refl _ _,rfl⟩ ?_
 · obtain ⟨v,s2,hC,hq⟩:=hrun
   have htg:tgtD (.func (.func 153) #[] #[.pointer (some ⟨s.n+1+1,0,none⟩),.pointer (some ⟨s.n+1+1+1,0,none⟩)]) [.func (.yield s5.n) #[] #[]]=some (.fn 153,[.func (.yield s5.n) #[] #[],.pointer (some ⟨s.n+1+1,0,none⟩),.pointer (some ⟨s.n+1+1+1,0,none⟩)]):=rfl
   rcases hq with ⟨q1,q2,q3,q4⟩ | ⟨q1,q2⟩
   · rw [rng_ret htg bodied153 hC q3 (by decide)]
     have hr:HP.get (delD s2 s5.n).h (s.n+1)=some (.row [.bool true]):=by rw [get_del (by omega),q2]
     have hl:loadD prog (delD s2 s5.n) 4 (.pointer (some ⟨s.n+1,0,none⟩))=some (.bool true):=by rw [load_row hr,part_one a4]; rfl
     simp only [oO,bindS,many1,jnE,boolS,gdB,fst',snd',hl]
     refine One.ret ⟨by rw [q4],?_⟩
     exact ⟨q1.1,fun j hj=>by rw [get_del (by omega),q1.2 j hj]⟩
   · have q5:HP.get s2.h s5.n=some (.loop 0 none 48 tl [11] (cdp Try.f48 [1,0,1,0,0]) (cdp Try.f48 [1,0,1,0,1])):=by rw [q1.2 _ (by omega),get_new rfl]
     rw [rng_none htg bodied153 hC q5 (by decide)]
     have hr:HP.get (delD s2 s5.n).h (s.n+1)=some (.row [.bool false]):=by rw [get_del (by omega),q1.2 _ (by omega),get_old (by omega),g1]
     have hst:storeD prog (delD s2 s5.n) 4 (.pointer (some ⟨s.n+1,0,none⟩)) (.bool false)=some (putD (delD s2 s5.n) (s.n+1) (.row [.bool false])):=store_row z4 hr rfl rfl rfl (by decide)
     have hl:loadD prog (putD (delD s2 s5.n) (s.n+1) (.row [.bool false])) 4 (.pointer (some ⟨s.n+1,0,none⟩))=some (.bool false):=by rw [load_row (get_put_same _),part_one a4]; rfl
     simp only [oO,bindS,many1,jnE,boolS,gdB,fst',snd',hst,hl]
     rw [List.take_length] at q2
     refine One.ret ⟨by rw [q2],?_⟩
     exact ⟨by have:=q1.1; rw [putD_n,delD_n]; simp only [newD_n] at this; omega,fun j hj=>by rw [get_put_other (by omega),get_del (by omega),q1.2 j (by omega),get_old (by omega),gs.2 j hj]⟩
 · rintro i hi s' ⟨hsm,hc⟩
   have hcs:cov ((lk es k).take (i+1)) t=(decide (t≥(lk es k)[i].1)&&decide (t≤(lk es k)[i].2)):=by
    rw [List.take_succ_eq_append_getElem hi]
    unfold cov at hc ⊢
    rw [List.any_append,hc]; simp
   have hin:(lk es k)[i]∈lk es k:=List.getElem_mem hi
   generalize (lk es k)[i]=y at hcs hin
   have hn5:s5.n+1≤s'.n:=by have:=hsm.1; rw [newD_n] at this; exact this
   have hL:HP.get s'.h s5.n=some (.loop 0 none 48 tl [11] (cdp Try.f48 [1,0,1,0,0]) (cdp Try.f48 [1,0,1,0,1])):=by rw [hsm.2 _ (by omega),get_new rfl]
   have h0:HP.get s'.h s.n=some (.row [.int .i64 t]):=by rw [hsm.2 _ (by omega),get_old (by omega),g0]
   have h1:HP.get s'.h (s.n+1)=some (.row [.bool false]):=by rw [hsm.2 _ (by omega),get_old (by omega),g1]
   have hsm1:Sm (s5.n+1) (newD s5 (.loop 0 none 48 tl [11] (cdp Try.f48 [1,0,1,0,0]) (cdp Try.f48 [1,0,1,0,1]))) (putD (newD s' (.row (rg (0,0)))) s'.n (.row (rg y))):=(hsm.new hn5 _).put (by omega) _
   have hL1:HP.get (putD (newD s' (.row (rg (0,0)))) s'.n (.row (rg y))).h s5.n=some (.loop 0 none 48 tl [11] (cdp Try.f48 [1,0,1,0,0]) (cdp Try.f48 [1,0,1,0,1])):=by rw [hsm1.2 _ (by omega),get_new rfl]
   have hn1:s5.n+1≤(putD (newD s' (.row (rg (0,0)))) s'.n (.row (rg y))).n:=by rw [putD_n,newD_n]; omega
   generalize putD (newD s' (.row (rg (0,0)))) s'.n (.row (rg y))=s7 at hsm1 hL1 hn1
   have hr:roundD prog AT.row (callD prog AT n) AT.N s5.n [.agg (rg y).toArray] s7=f48_r0 (dOps prog) (callD prog AT n) AT.N s5.n (.pointer (some ⟨s.n,0,none⟩)) (.pointer (some ⟨s.n+1,0,none⟩)) (.agg (rg y).toArray) s7:=by
    subst htl
    exact f48_r0_e rfl (loop_of hL1) _
   rw [call_yld,hr]
   have hal7:allocD prog s7 69=some (.pointer (some ⟨s7.n,0,none⟩),newD s7 (.row (rg (0,0)))):=alloc_at zr69
   have hst7:storeD prog (newD s7 (.row (rg (0,0)))) 69 (.pointer (some ⟨s7.n,0,none⟩)) (.agg (rg y).toArray)=some (putD (newD s7 (.row (rg (0,0)))) s7.n (.row (rg y))):=store_row z69 (get_new rfl) rfl rfl rfl (by simp [rg])
   have hL8:HP.get (putD (newD s7 (.row (rg (0,0)))) s7.n (.row (rg y))).h s5.n=some (.loop 0 none 48 tl [11] (cdp Try.f48 [1,0,1,0,0]) (cdp Try.f48 [1,0,1,0,1])):=by rw [get_put_other (by omega),get_old (by omega)]; exact hL1
   have hy8:HP.get (putD (newD s7 (.row (rg (0,0)))) s7.n (.row (rg y))).h s7.n=some (.row (rg y)):=get_put_same _
   have hsm8:=(hsm1.new hn1 (.row (rg (0,0)))).put (j:=s7.n) hn1 (.row (rg y))
   have hn8:s7.n<(putD (newD s7 (.row (rg (0,0)))) s7.n (.row (rg y))).n:=by rw [putD_n,newD_n]; omega
   simp only [f48_r0,oO,bindS,many1,jnE,boolS,gdB,fst',snd',hal7,hst7,begin_of hL8]
   have hne:s7.n≠s5.n:=by omega
   generalize putD (newD s7 (.row (rg (0,0)))) s7.n (.row (rg y))=s8 at hL8 hy8 hsm8 hn8
   have q0:HP.get (putD s8 s5.n (.loop 1 none 48 tl [11] (cdp Try.f48 [1,0,1,0,0]) (cdp Try.f48 [1,0,1,0,1]))).h s5.n=some (.loop 1 none 48 tl [11] (cdp Try.f48 [1,0,1,0,0]) (cdp Try.f48 [1,0,1,0,1])):=get_put_same _
   have q1:HP.get (putD s8 s5.n (.loop 1 none 48 tl [11] (cdp Try.f48 [1,0,1,0,0]) (cdp Try.f48 [1,0,1,0,1]))).h s.n=some (.row [.int .i64 t]):=by rw [get_put_other (by omega),hsm8.2 _ (by omega),get_old (by omega),g0]
   have q2:HP.get (putD s8 s5.n (.loop 1 none 48 tl [11] (cdp Try.f48 [1,0,1,0,0]) (cdp Try.f48 [1,0,1,0,1]))).h (s.n+1)=some (.row [.bool false]):=by rw [get_put_other (by omega),hsm8.2 _ (by omega),get_old (by omega),g1]
   have q3:HP.get (putD s8 s5.n (.loop 1 none 48 tl [11] (cdp Try.f48 [1,0,1,0,0]) (cdp Try.f48 [1,0,1,0,1]))).h s7.n=some (.row (rg y)):=by rw [get_put_other hne,hy8]
   have q4:Sm s5.n (newD s5 (.loop 0 none 48 tl [11] (cdp Try.f48 [1,0,1,0,0]) (cdp Try.f48 [1,0,1,0,1]))) (putD s8 s5.n (.loop 1 none 48 tl [11] (cdp Try.f48 [1,0,1,0,0]) (cdp Try.f48 [1,0,1,0,1]))):=Sm.put (lo:=s5.n) ⟨hsm8.1,fun j hj=>hsm8.2 j (by omega)⟩ (Nat.le_refl _) _
   generalize putD s8 s5.n (.loop 1 none 48 tl [11] (cdp Try.f48 [1,0,1,0,0]) (cdp Try.f48 [1,0,1,0,1]))=s9 at q0 q1 q2 q3 q4
   have lt:loadD prog s9 3 (.pointer (some ⟨s.n,0,none⟩))=some (.int .i64 t):=by rw [load_row q1,part_one a3]; rfl
   have stt:storeD prog s9 4 (.pointer (some ⟨s.n+1,0,none⟩)) (.bool true)=some (putD s9 (s.n+1) (.row [.bool true])):=store_row z4 q2 rfl rfl rfl (by decide)
   have qL:HP.get (putD s9 (s.n+1) (.row [.bool true])).h s5.n=some (.loop 1 none 48 tl [11] (cdp Try.f48 [1,0,1,0,0]) (cdp Try.f48 [1,0,1,0,1])):=by rw [get_put_other (by omega),q0]
   have no:cov ((lk es k).take (i+1)) t=false→∃ b s3,some [(Value.bool true,putD s9 s5.n (.loop 0 none 48 tl [11] (cdp Try.f48 [1,0,1,0,0]) (cdp Try.f48 [1,0,1,0,1])))]=some [(.bool b,s3)]∧(b=true→Sm (s5.n+1) (newD s5 (.loop 0 none 48 tl [11] (cdp Try.f48 [1,0,1,0,0]) (cdp Try.f48 [1,0,1,0,1]))) s3∧cov ((lk es k).take (i+1)) t=false)∧(b=false→Sm s.n s s3∧HP.get s3.h (s.n+1)=some (.row [.bool true])∧HP.get s3.h s5.n=some (.loop 2 (some .ret) 48 tl [11] (cdp Try.f48 [1,0,1,0,0]) (cdp Try.f48 [1,0,1,0,1]))∧cov (lk es k) t=true):=by
    intro hf
    refine ⟨true,_,rfl,fun _=>⟨⟨by rw [putD_n]; exact q4.1,fun j hj=>?_⟩,hf⟩,fun h=>by cases h⟩
    by_cases e:j=s5.n
    · subst e; rw [get_put_same,get_new rfl]
    · rw [get_put_other e,q4.2 j (by omega)]
   by_cases c1:t≥y.1
   · by_cases c2:t≤y.2
     · simp only [lt,fld69_0,fld69_1,ld3_0 q3,ld3_1 q3,oO,bindS,many1,jnE,boolS,gdB,fst',snd',bop_geq,bop_leq,c1,c2,decide_true,condT,stt,setLoop_of qL,Option.map_some]
       refine ⟨false,_,rfl,(fun h=>by cases h),fun _=>⟨⟨?_,fun j hj=>?_⟩,?_,get_put_same _,?_⟩⟩
       · have:=q4.1; rw [putD_n,putD_n]; rw [newD_n] at this; omega
       · rw [get_put_other (by omega),get_put_other (by omega),q4.2 j (by omega),get_old (by omega),gs.2 j hj]
       · rw [get_put_other (by omega),get_put_same]
       · unfold cov; rw [List.any_eq_true]; exact ⟨y,hin,by rw [decide_eq_true c1,decide_eq_true c2]; rfl⟩
     · simp only [lt,fld69_0,fld69_1,ld3_0 q3,ld3_1 q3,oO,bindS,many1,jnE,boolS,gdB,fst',snd',bop_geq,bop_leq,c1,c2,decide_true,decide_false,condT,condF,setLoop_of q0,Option.map_some]
       exact no (by rw [hcs,decide_eq_false c2,Bool.and_false])
   · simp only [lt,fld69_0,fld69_1,ld3_0 q3,ld3_1 q3,oO,bindS,many1,jnE,boolS,gdB,fst',snd',bop_geq,bop_leq,c1,decide_false,condF,setLoop_of q0,Option.map_some]
     exact no (by rw [hcs,decide_eq_false c1,Bool.false_and])
end Go.Proofs.Ytmhmbmogodofeaa.S
namespace Go.Proofs.Ytmhmbmogodofeaa.S
open Go.FS Go.RowKit
open Go.Proofs.Try (prog)
attribute [local congr] bind_cg cond_cg gd_cg
theorem gapp80 {lo:Nat} {s:SH} {v:Value} {m2:Nat} {xs ys:List Rg} (h:Grow lo 2 rg s v xs) (hlo:lo≤s.n) (hb:(xs.length+ys.length)*16≤140737488355328) :
 ∃ v' s',appD prog false s 80 80 v (sl rg m2 ys)=some (v',s')∧Grow lo 2 rg s' v' (xs++ys)∧Sm lo s s'∧(∀ j,j<s.n→HP.get s.h j≠some (.tok xs.length 2)→HP.get s'.h j=HP.get s.h j) :=
 h.app (i:=Try.t69) hlo u80 u80 (by kernel_rfl) zr69 rfl (by kernel_rfl) (by kernel_rfl) (by decide) rg_len hb (by omega)
theorem bs80 (s:SH) (y:Rg):buildSliceD prog false s 80 1 [(0,.agg (rg y).toArray)]=some (sl rg 1 [y],s):=by kernel_rfl
theorem Grow.ntup {α:Type} {lo z:Nat} {enc:α→List Value} {s:SH} {v:Value} {xs:List α} (h:Grow lo z enc s v xs):∀ a,v≠.tuple a:=by
 rcases h with ⟨_,rfl | rfl⟩ | ⟨id,_,_,rfl,_⟩ <;> intro a h <;> cases h
theorem Grow.one {α:Type} {lo z:Nat} {enc:α→List Value} {s:SH} {v:Value} {xs:List α} (h:Grow lo z enc s v xs):oneC v=true∧v.cells.toList=[v]:=by
 rcases h with ⟨_,rfl | rfl⟩ | ⟨id,_,_,rfl,_⟩ <;> exact ⟨rfl,rfl⟩
theorem c154 {n a1 a2 p m c:Nat} {k:Int} {s:SH} {es:List En} (h1:HP.get s.h a1=some (.row [.pointer (some ⟨p,0,none⟩)])) (h2:HP.get s.h a2=some (.row [.int .u64 k])) (h1n:a1<s.n) (h2n:a2<s.n) (ht:TombAt s p m) (hm:HP.get s.h m=some (.map (es.map ent) c)) (hp:p<s.n) (hmn:m<s.n) (hlen:(lk es k).length*16≤140737488355328) :
 ∃ q,q≤2∧callD prog AT (n+3) (.fn 154) [fzV 2 #[],.func (.func 153) #[] #[.pointer (some ⟨a1,0,none⟩),.pointer (some ⟨a2,0,none⟩)]] s=some [(sl rg q (lk es k),s)]:=by
 suffices h:One (bodyD prog false (callD prog AT (n+2)) AT.N 154 Try.f154 [fzV 2 #[],.func (.func 153) #[] #[.pointer (some ⟨a1,0,none⟩),.pointer (some ⟨a2,0,none⟩)]] s) fun v s'=>Ext s s'∧Grow s.n 2 rg s' v (lk es k) by
  obtain ⟨v,s',e,he,hg⟩:=h
  obtain ⟨q,hq,hq2,_⟩:=grow_cut hg (n:=s.n) (Nat.le_refl _) (rg_strip s.n)
  refine ⟨q,by omega,?_⟩
  rw [← hq]
  exact cut_call (fn:=Try.f154) rfl rfl (by kernel_rfl) (Grow.ntup hg) (by rw [hq]; exact bel_sl (by omega) (rg_bel s.n)) ⟨v,s',e,rfl,he⟩
 rw [f154_r]
 have hb:boxD s (fzV 2 #[])=some (.pointer (some ⟨s.n,0,none⟩),newD s (.row [fzV 2 #[]])):=box_at rfl rfl
 simp only [f154,oO,bindS,many1,jnE,boolS,gdB,fst',snd',hb]
 have g0:HP.get (newD s (.row [fzV 2 #[]])).h s.n=some (.row [fzV 2 #[]]):=get_new rfl
 have gs:Sm s.n s (newD s (.row [fzV 2 #[]])):=(Sm.refl s.n s).new (Nat.le_refl _) _
 have gn:(newD s (.row [fzV 2 #[]])).n=s.n+1:=newD_n _ _
 generalize newD s (.row [fzV 2 #[]])=s5 at g0 gs gn
 generalize htl:[fzV 2 #[],Value.func (.func 153) #[] #[.pointer (some ⟨a1,0,none⟩),.pointer (some ⟨a2,0,none⟩)],_,_,_,_,_,_,_,_,_,_,_]=tl
 have hrun:=c153 (n:=n) (l:=s5.n) (a1:=a1) (a2:=a2) (p:=p) (m:=m) (c:=c) (k:=k) (es:=es) (s:=newD s5 (.loop 0 none 154 tl [7] (cdp Try.f154 [1,0,1,0,0]) (cdp Try.f154 [1,0,1,0,1])))
  (by rw [get_old (by omega),gs.2 _ h1n]; exact h1) (by rw [get_old (by omega),gs.2 _ h2n]; exact h2) (by unfold TombAt; rw [get_old (by omega),gs.2 p hp]; exact ht) (by rw [get_old (by omega),gs.2 m hmn]; exact hm) (by omega)
  (fun i s'=>Sm s.n s s'∧s5.n+1≤s'.n∧HP.get s'.h s5.n=some (.loop 0 none 154 tl [7] (cdp Try.f154 [1,0,1,0,0]) (cdp Try.f154 [1,0,1,0,1]))∧∃ v,HP.get s'.h s.n=some (.row [v])∧Grow (s5.n+1) 2 rg s' v ((lk es k).take i))
  (fun s'=>False) ⟨gs.new (by omega) _,by rw [newD_n]; omega,get_new rfl,fzV 2 #[],by rw [get_old (by omega),g0],.inl ⟨rfl,.inl rfl⟩⟩ ?_
 · obtain ⟨v,s2,hC,hq⟩:=hrun
   have htg:tgtD (.func (.func 153) #[] #[.pointer (some ⟨a1,0,none⟩),.pointer (some ⟨a2,0,none⟩)]) [.func (.yield s5.n) #[] #[]]=some (.fn 153,[.func (.yield s5.n) #[] #[],.pointer (some ⟨a1,0,none⟩),.pointer (some ⟨a2,0,none⟩)]):=rfl
   rcases hq with hq | ⟨q1,q2,q3,w,q4,q5⟩
   · exact hq.elim
   · rw [rng_none htg bodied153 hC q3 (by decide)]
     have hr:HP.get (delD s2 s5.n).h s.n=some (.row [w]):=by rw [get_del (by omega),q4]
     have hl:loadD prog (delD s2 s5.n) 80 (.pointer (some ⟨s.n,0,none⟩))=some w:=by rw [load_row hr,part_one a80]; rfl
     simp only [oO,bindS,many1,jnE,boolS,gdB,fst',snd',hl]
     rw [List.take_length] at q5
     refine One.ret ⟨⟨q1.1,fun j hj=>by rw [get_del (by omega),q1.2 j hj]⟩,?_⟩
     have q6:Grow (s5.n+1) 2 rg (delD s2 s5.n) w (lk es k):=q5.mono (Nat.le_refl _) fun i hi _ _=>get_del (by omega)
     rcases q6 with q6 | ⟨id,w1,w2,w3,w4⟩
     · exact .inl q6
     · exact .inr ⟨id,by omega,w2,w3,w4⟩
 · rintro i hi s' ⟨hsm,hn',hL,v,hv,hgr⟩
   have hts:(lk es k).take (i+1)=(lk es k).take i++[(lk es k)[i]]:=List.take_succ_eq_append_getElem hi
   have hln:((lk es k).take i).length=i:=by rw [List.length_take]; omega
   generalize (lk es k)[i]=y at hts
   have hL1:HP.get (putD (newD s' (.row (rg (0,0)))) s'.n (.row (rg y))).h s5.n=some (.loop 0 none 154 tl [7] (cdp Try.f154 [1,0,1,0,0]) (cdp Try.f154 [1,0,1,0,1])):=by rw [get_put_other (by omega),get_old (by omega),hL]
   have hv1:HP.get (putD (newD s' (.row (rg (0,0)))) s'.n (.row (rg y))).h s.n=some (.row [v]):=by rw [get_put_other (by omega),get_old (by omega),hv]
   have hsm1:Sm s.n s (putD (newD s' (.row (rg (0,0)))) s'.n (.row (rg y))):=(hsm.new (by omega) _).put (by omega) _
   have hgr1:Grow (s5.n+1) 2 rg (putD (newD s' (.row (rg (0,0)))) s'.n (.row (rg y))) v ((lk es k).take i):=(hgr.new _).put _ (by rw [get_new rfl]; intro h; cases h)
   have hn1:s5.n+1≤(putD (newD s' (.row (rg (0,0)))) s'.n (.row (rg y))).n:=by rw [putD_n,newD_n]; omega
   generalize putD (newD s' (.row (rg (0,0)))) s'.n (.row (rg y))=s7 at hL1 hv1 hsm1 hgr1 hn1
   have hr:roundD prog AT.row (callD prog AT n) AT.N s5.n [.agg (rg y).toArray] s7=f154_r0 (dOps prog) (callD prog AT n) AT.N s5.n (.pointer (some ⟨s.n,0,none⟩)) (.agg (rg y).toArray) s7:=by
    subst htl
    exact f154_r0_e rfl (loop_of hL1) _
   rw [call_yld,hr]
   have hal7:allocD prog s7 69=some (.pointer (some ⟨s7.n,0,none⟩),newD s7 (.row (rg (0,0)))):=alloc_at zr69
   have hst7:storeD prog (newD s7 (.row (rg (0,0)))) 69 (.pointer (some ⟨s7.n,0,none⟩)) (.agg (rg y).toArray)=some (putD (newD s7 (.row (rg (0,0)))) s7.n (.row (rg y))):=store_row z69 (get_new rfl) rfl rfl rfl (by simp [rg])
   have hL8:HP.get (putD (newD s7 (.row (rg (0,0)))) s7.n (.row (rg y))).h s5.n=some (.loop 0 none 154 tl [7] (cdp Try.f154 [1,0,1,0,0]) (cdp Try.f154 [1,0,1,0,1])):=by rw [get_put_other (by omega),get_old (by omega)]; exact hL1
   have hy8:HP.get (putD (newD s7 (.row (rg (0,0)))) s7.n (.row (rg y))).h s7.n=some (.row (rg y)):=get_put_same _
   have hv8:HP.get (putD (newD s7 (.row (rg (0,0)))) s7.n (.row (rg y))).h s.n=some (.row [v]):=by rw [get_put_other (by omega),get_old (by omega),hv1]
   have hsm8:Sm s.n s (putD (newD s7 (.row (rg (0,0)))) s7.n (.row (rg y))):=(hsm1.new (by omega) _).put (by omega) _
   have hgr8:Grow (s5.n+1) 2 rg (putD (newD s7 (.row (rg (0,0)))) s7.n (.row (rg y))) v ((lk es k).take i):=(hgr1.new _).put _ (by rw [get_new rfl]; intro h; cases h)
   have hn8:s7.n<(putD (newD s7 (.row (rg (0,0)))) s7.n (.row (rg y))).n:=by rw [putD_n,newD_n]; omega
   simp only [f154_r0,oO,bindS,many1,jnE,boolS,gdB,fst',snd',hal7,hst7,begin_of hL8]
   generalize putD (newD s7 (.row (rg (0,0)))) s7.n (.row (rg y))=s8 at hL8 hy8 hsm8 hn8 hv8 hgr8
   have q0:HP.get (putD s8 s5.n (.loop 1 none 154 tl [7] (cdp Try.f154 [1,0,1,0,0]) (cdp Try.f154 [1,0,1,0,1]))).h s5.n=some (.loop 1 none 154 tl [7] (cdp Try.f154 [1,0,1,0,0]) (cdp Try.f154 [1,0,1,0,1])):=get_put_same _
   have q1:HP.get (putD s8 s5.n (.loop 1 none 154 tl [7] (cdp Try.f154 [1,0,1,0,0]) (cdp Try.f154 [1,0,1,0,1]))).h s.n=some (.row [v]):=by rw [get_put_other (by omega),hv8]
   have q3:HP.get (putD s8 s5.n (.loop 1 none 154 tl [7] (cdp Try.f154 [1,0,1,0,0]) (cdp Try.f154 [1,0,1,0,1]))).h s7.n=some (.row (rg y)):=by rw [get_put_other (by omega),hy8]
   have q4:Sm s.n s (putD s8 s5.n (.loop 1 none 154 tl [7] (cdp Try.f154 [1,0,1,0,0]) (cdp Try.f154 [1,0,1,0,1]))):=hsm8.put (by omega) _
   have q5:Grow (s5.n+1) 2 rg (putD s8 s5.n (.loop 1 none 154 tl [7] (cdp Try.f154 [1,0,1,0,0]) (cdp Try.f154 [1,0,1,0,1]))) v ((lk es k).take i):=hgr8.put _ (by rw [hL8]; intro h; cases h)
   have q6:s5.n+1≤(putD s8 s5.n (.loop 1 none 154 tl [7] (cdp Try.f154 [1,0,1,0,0]) (cdp Try.f154 [1,0,1,0,1]))).n:=by rw [putD_n]; omega
   generalize putD s8 s5.n (.loop 1 none 154 tl [7] (cdp Try.f154 [1,0,1,0,0]) (cdp Try.f154 [1,0,1,0,1]))=s9 at q0 q1 q3 q4 q5 q6
   have lv:loadD prog s9 80 (.pointer (some ⟨s.n,0,none⟩))=some v:=by rw [load_row q1,part_one a80]; rfl
   have ly:loadD prog s9 69 (.pointer (some ⟨s7.n,0,none⟩))=some (.agg (rg y).toArray):=by rw [load_row q3,part_agg a69 z69 (l:=rg y) rfl rfl]
   obtain ⟨v',s10,e1,w1,w2,w3⟩:=gapp80 (m2:=1) (ys:=[y]) q5 q6 (by rw [hln]; simp only [List.length_singleton]; omega)
   have r1:HP.get s10.h s.n=some (.row [v]):=by rw [w2.2 _ (by omega),q1]
   have r0:HP.get s10.h s5.n=some (.loop 1 none 154 tl [7] (cdp Try.f154 [1,0,1,0,0]) (cdp Try.f154 [1,0,1,0,1])):=by rw [w2.2 _ (by omega),q0]
   have stv:storeD prog s10 80 (.pointer (some ⟨s.n,0,none⟩)) v'=some (putD s10 s.n (.row [v'])):=store_row z80 r1 (Grow.one w1).2 rfl (by simp [(Grow.one w1).1]) (by simp)
   have r2:HP.get (putD s10 s.n (.row [v'])).h s5.n=some (.loop 1 none 154 tl [7] (cdp Try.f154 [1,0,1,0,0]) (cdp Try.f154 [1,0,1,0,1])):=by rw [get_put_other (by omega),r0]
   simp only [lv,ly,bs80,oO,bindS,many1,jnE,boolS,gdB,fst',snd',e1,stv,setLoop_of r2,Option.map_some]
   refine ⟨true,_,rfl,fun _=>⟨⟨?_,fun j hj=>?_⟩,?_,get_put_same _,v',?_,?_⟩,fun h=>by cases h⟩
   · have:=q4.1; have:=w2.1; rw [putD_n,putD_n]; omega
   · rw [get_put_other (by omega),get_put_other (by omega),w2.2 j (by omega),q4.2 j hj]
   · have:=w2.1; rw [putD_n,putD_n]; omega
   · rw [get_put_other (by omega),get_put_same]
   · rw [hts]
     exact (w1.put _ (by rw [r1]; intro h; cases h)).put _ (by rw [r2]; intro h; cases h)
theorem strip_sl {n q:Nat} (hq:q≤2) (xs:List Rg):stripN 8 n (sl rg q xs)=sl rg q xs:=by
 rw [strip_sl' (rg_strip n)]
 have:Nat.blt q (n+3)=true:=by rw [blt_dec,decide_eq_true]; omega
 rw [this]; rfl
theorem c50 {n p m c:Nat} {k:Int} {s:SH} {es:List En} (ht:TombAt s p m) (hm:HP.get s.h m=some (.map (es.map ent) c)) (hp:p<s.n) (hmn:m<s.n) (hlen:(lk es k).length*16≤140737488355328) :
 ∃ q,q≤2∧callD prog AT (n+5) (.fn 50) [.pointer (some ⟨p,0,none⟩),.int .u64 k] s=some [(sl rg q (lk es k),s)]:=by
 have e1:TombAt (newD (newD s (.row [.pointer (some ⟨p,0,none⟩)])) (.row [.int .u64 k])) p m:=by unfold TombAt; rw [get_old (by rw [newD_n]; omega),get_old (by omega)]; exact ht
 have e2:HP.get (newD (newD s (.row [.pointer (some ⟨p,0,none⟩)])) (.row [.int .u64 k])).h m=some (.map (es.map ent) c):=by rw [get_old (by rw [newD_n]; omega),get_old (by omega)]; exact hm
 obtain ⟨q,hq,h154⟩:=c154 (n:=n) (a1:=s.n) (a2:=s.n+1) (k:=k) (s:=newD (newD s (.row [.pointer (some ⟨p,0,none⟩)])) (.row [.int .u64 k])) (by rw [get_old (by rw [newD_n]; omega),get_new rfl]) (get_new (by rw [newD_n])) (by simp only [newD_n]; omega) (by simp only [newD_n]; omega) e1 e2 (by simp only [newD_n]; omega) (by simp only [newD_n]; omega) hlen
 have h106:callD prog AT (n+4) (.fn 106) [.func (.func 153) #[] #[.pointer (some ⟨s.n,0,none⟩),.pointer (some ⟨s.n+1,0,none⟩)]] (newD (newD s (.row [.pointer (some ⟨p,0,none⟩)])) (.row [.int .u64 k]))=some [(sl rg q (lk es k),newD (newD s (.row [.pointer (some ⟨p,0,none⟩)])) (.row [.int .u64 k]))]:=by
  rw [call_fn (fn:=Try.f106) rfl rfl (by kernel_rfl)]
  show bodyD prog false _ _ 106 Try.f106 _ _=_
  rw [f106_r]
  simp only [f106,h154,bindS,many1]
 refine ⟨q,hq,?_⟩
 have:=cut_call (P:=prog) (A:=AT) (n:=n+4) (f:=50) (fn:=Try.f50) (args:=[.pointer (some ⟨p,0,none⟩),.int .u64 k]) (s:=s) (v:=sl rg q (lk es k)) rfl rfl (by kernel_rfl) (fun _ h=>by cases h) (by rw [strip_sl hq]; exact bel_sl (by omega) (rg_bel s.n)) ?_
 · rw [strip_sl hq] at this; exact this
 · show One (bodyD prog false _ _ 50 Try.f50 _ s) _
   rw [f50_r]
   simp only [f50,c105,h106,bindS,many1]
   exact One.ret ⟨rfl,((Ext.refl s).new _).new _⟩
theorem c46 {n:Nat} {s:SH}:callD prog AT (n+1) (.fn 46) [] s=some [(.pointer (some ⟨s.n+1,0,none⟩),newD (newD s (.map [] 0)) (.row [.map (some s.n)]))]:=by
 rw [call_fn (fn:=Try.f46) rfl rfl (by kernel_rfl)]
 show bodyD prog false _ _ 46 Try.f46 _ s=_
 rw [f46_r]
 have h1:makeMapO prog s 156 none=some (.map (some s.n),newD s (.map [] 0)):=by
  show makeMapD prog s 156=_
  unfold makeMapD; rw [u156]
 have h2:buildD prog 158 [(0,.map (some s.n))]=some (.agg #[.map (some s.n)]):=by kernel_rfl
 have h3:∀ s':SH,boxD s' (.agg #[.map (some s.n)])=some (.pointer (some ⟨s'.n,0,none⟩),newD s' (.row [.map (some s.n)])):=fun s'=>box_at rfl rfl
 simp only [f46,oO,bindS,many1,jnE,boolS,gdB,fst',snd',o_makeMap,h1,h2,h3,newD_n]
end Go.Proofs.Ytmhmbmogodofeaa.S
namespace Go.Proofs.Ytmhmbmogodofeaa.S
open Go.FS Go.RowKit
open Go.Proofs.Try (prog)
def Cn (M:Int):Int→List Rg→Prop
 | _,[]=>True
 | b,y::l=>b+1<y.1∧y.1≤y.2∧y.2≤M∧Cn M y.2 l
theorem Cn.weak {M b b':Int} {l:List Rg} (h:Cn M b l) (hb:b'≤b):Cn M b' l:=by
 cases l with
 | nil=>trivial
 | cons y l=>exact ⟨by have:=h.1; omega,h.2⟩
def joinR:List Rg→Rg→List Rg
 | [],x=>[x]
 | y::l,x=>if y.2+1<x.1 then y::joinR l x else if x.2+1<y.1 then x::y::l else joinR l (if y.1<x.1 then y.1 else x.1,if x.2<y.2 then y.2 else x.2)
theorem tou_eq {a b:Int} (h0:0≤a) (h1:a≤35184372088832):tou a b=decide (b≤a+1):=by
 unfold tou; rw [wrap_i64 (by omega) (by omega)]
theorem fold_done {M:Int} (hM:M≤35184372088832):∀ (l:List Rg) (b:Int) (out:List Rg) (x:Rg),Cn M b l→x.2≤b→0≤x.2→x.2≤M→l.foldl jstep (out,true,x)=(out++l,true,x)
 | [],b,out,x,_,_,_,_=>by simp
 | y::l,b,out,x,h,hx,h0,h1=>by
  obtain ⟨a1,a2,a3,a4⟩:=h
  have k2:tou x.2 y.1=false:=by rw [tou_eq h0 (by omega)]; exact decide_eq_false (by omega)
  have e:jstep (out,true,x) y=(out++[y],true,x):=by
   unfold jstep
   cases tou y.2 x.1 <;> simp [k2]
  rw [List.foldl_cons,e,fold_done hM l y.2 _ x a4 (by omega) h0 h1]; simp
theorem fold_join {M:Int} (hM:M≤35184372088832):∀ (l:List Rg) (b:Int) (out:List Rg) (x:Rg),Cn M b l→-2≤b→0≤x.1→x.1≤x.2→x.2≤M →
 (match l.foldl jstep (out,false,x) with | (out,done,x)=>bif !done then out++[x] else out)=out++joinR l x
 | [],b,out,x,_,_,_,_,_=>rfl
 | y::l,b,out,x,h,hb,h0,h1,h2=>by
  obtain ⟨a1,a2,a3,a4⟩:=h
  have k1:tou y.2 x.1=decide (x.1≤y.2+1):=tou_eq (by omega) (by omega)
  have k2:tou x.2 y.1=decide (y.1≤x.2+1):=tou_eq (by omega) (by omega)
  rw [List.foldl_cons]
  by_cases q1:y.2+1<x.1
  · have e:jstep (out,false,x) y=(out++[y],false,x):=by
     simp only [jstep]; rw [k1,decide_eq_false (by omega)]; rfl
    rw [e,fold_join hM l y.2 _ x a4 (by omega) h0 h1 h2]
    simp only [joinR,q1,if_true,List.append_assoc,List.singleton_append]
  · by_cases q2:x.2+1<y.1
    · have e:jstep (out,false,x) y=(out++[x]++[y],true,x):=by
       simp only [jstep]; rw [k1,k2,decide_eq_true (by omega),decide_eq_false (by omega)]; rfl
      rw [e,fold_done hM l y.2 _ x a4 (by omega) (by omega) h2]
      simp only [joinR,q1,q2,if_true,if_false,Bool.not_true,cond_false,List.append_assoc,List.singleton_append,List.cons_append,List.nil_append]
    · have e:jstep (out,false,x) y=(out,false,(if y.1<x.1 then y.1 else x.1,if x.2<y.2 then y.2 else x.2)):=by
       simp only [jstep]; rw [k1,k2,decide_eq_true (by omega),decide_eq_true (by omega)]; rfl
      have g0:(0:Int)≤(if y.1<x.1 then y.1 else x.1):=by split <;> omega
      have g1:(if y.1<x.1 then y.1 else x.1)≤(if x.2<y.2 then y.2 else x.2):=by split <;> split <;> omega
      have g2:(if x.2<y.2 then y.2 else x.2)≤M:=by split <;> omega
      rw [e,fold_join hM l b _ _ (a4.weak (by omega)) hb g0 g1 g2]
      simp only [joinR,q1,q2,if_false]
theorem joinR_cn {M:Int}:∀ (l:List Rg) (b:Int) (x:Rg),Cn M b l→b+1<x.1→x.1≤x.2→x.2≤M→Cn M b (joinR l x)
 | [],b,x,_,h0,h1,h2=>⟨h0,h1,h2,trivial⟩
 | y::l,b,x,h,h0,h1,h2=>by
  obtain ⟨a1,a2,a3,a4⟩:=h
  unfold joinR
  split
  · next q=>exact ⟨a1,a2,a3,joinR_cn l y.2 x a4 q h1 h2⟩
  · split
    · next q=>exact ⟨h0,h1,h2,q,a2,a3,a4⟩
    · exact joinR_cn l b _ (a4.weak (by omega)) (by simp only; split <;> omega) (by simp only; split <;> split <;> omega) (by simp only; split <;> omega)
theorem right5 (r:Rg):rightR r [5]=true↔0≤r.1∧r.1≤r.2∧r.2≤35184372088832:=by
 unfold rightR
 have:rises 0 [5]=true:=by decide
 rw [this]; simp
theorem joinF_R {l:List Rg} {x:Rg} (h:Cn 35184372088832 (-2) l) (hx:rightR x [5]=true):joinF l x=joinR l x:=by
 obtain ⟨h0,h1,h2⟩:=(right5 x).1 hx
 have:=fold_join (Int.le_refl _) l (-2) [] x h (Int.le_refl _) h0 h1 h2
 exact this
end Go.Proofs.Ytmhmbmogodofeaa.S
