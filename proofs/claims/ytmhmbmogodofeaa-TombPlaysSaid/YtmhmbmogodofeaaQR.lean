import Derived.Test.YtmhmbmogodofeaaQO
import Derived.Test.YtmhmbmogodofeaaST
import Derived.Test.YtmhmbmogodofeaaTT
set_option linter.unusedVariables false
set_option linter.unusedSimpArgs false
set_option maxRecDepth 100000
namespace Go.Proofs.Ytmhmbmogodofeaa.S
open Go.FS Go.RowKit
open Go.Proofs.Try (prog)
attribute [local congr] bind_cg cond_cg gd_cg
open Go.FS.Q
section evr
variable {H:HeapI}
def Evr (r:Option (List (Value×St H))) (Q:Value→St H→Prop):Prop:=∃ L,r=some L∧L≠[]∧∀ p∈L,Q p.1 p.2
theorem One.evr {r:Option (List (Value×St H))} {Q:Value→St H→Prop} (h:One r Q):Evr r Q:=by
 obtain ⟨v,s,e,h⟩:=h
 exact ⟨_,e,by simp,fun p hp=>by rw [List.mem_singleton] at hp; subst hp; exact h⟩
theorem Evr.ret {v:Value} {s:St H} {Q:Value→St H→Prop} (h:Q v s):Evr (some [(v,s)]) Q:=One.evr (One.ret h)
theorem Evr.mono {r:Option (List (Value×St H))} {Q R:Value→St H→Prop} (h:Evr r Q) (k:∀ v s,Q v s→R v s):Evr r R:=by
 obtain ⟨L,e,h1,h2⟩:=h
 exact ⟨L,e,h1,fun p hp=>k _ _ (h2 p hp)⟩
theorem evr_join {Q:Value→St H→Prop}:∀ (L:List (Option (List (Value×St H)))),L≠[]→(∀ r∈L,Evr r Q)→Evr (joinO L) Q
 | [],h,_=>absurd rfl h
 | [r],_,h=>by
  obtain ⟨M,rfl,h1,h2⟩:=h r (List.mem_cons_self ..)
  refine ⟨M,?_,h1,h2⟩
  show (joinO []).map (M++·)=_
  show some (M++[])=_
  rw [List.append_nil]
 | r::r2::L,_,h=>by
  obtain ⟨M,rfl,h1,h2⟩:=h r (List.mem_cons_self ..)
  obtain ⟨N,e,_,h4⟩:=evr_join (r2::L) (by simp) fun x hx=>h x (List.mem_cons_of_mem _ hx)
  refine ⟨M++N,?_,by simp [h1],fun p hp=>?_⟩
  · show (joinO (r2::L)).map (M++·)=_
    rw [e]; rfl
  · rcases List.mem_append.1 hp with hp | hp
    · exact h2 p hp
    · exact h4 p hp
theorem evr_many {Q:Value→St H→Prop} {L:List (Value×St H)} {k:Value→St H→Option (List (Value×St H))} (hL:L≠[]) (h:∀ p∈L,Evr (k p.1 p.2) Q):Evr (manyK L k) Q:=by
 match L,hL with
 | [p],_=>rw [many1]; exact h p (List.mem_cons_self ..)
 | p::q::L,_ =>
  refine evr_join _ (by simp) fun r hr=>?_
  obtain ⟨x,hx,rfl⟩:=List.mem_map.1 hr
  exact h x hx
theorem Evr.bind {Q R:Value→St H→Prop} {r:Option (List (Value×St H))} {k:Value→St H→Option (List (Value×St H))} (h:Evr r R) (hk:∀ v s,R v s→Evr (k v s) Q):Evr (r.bind fun L=>manyK L k) Q:=by
 obtain ⟨L,rfl,h1,h2⟩:=h
 rw [bindS]
 exact evr_many h1 fun p hp=>hk _ _ (h2 p hp)
theorem rng_evr {P:Program} {C:OracleJ H} {fn g:FuncId} {f:Value} {t args:List Value} {ps:List Tmp} {a b:Code} {s:St H} {k0 kr:St H→Option (List (Value×St H))} {kx:Nat→St H→Option (List (Value×St H))} {Q R:Value→St H→Prop} (ht:tgtD f [.func (.yield s.n) #[] #[]]=some (.fn g,args)) (hb:bodied P g=true) (hC:Evr (C (.fn g) args (newD s (.loop 0 none fn t ps a b))) R)
 (hk:∀ v s2,R v s2→H.get s2.h s.n=some (.loop 0 none fn t ps a b)∧Evr (k0 (delD s2 s.n)) Q):Evr (rngO P (dOps P) C fn f t ps a b s k0 kr kx) Q:=by
 unfold rngO
 rw [o_tgt,ht,bindS]
 show Evr (bif !bodied P g then none else _) Q
 rw [hb,Bool.not_true,condF]
 refine Evr.bind hC fun v s2 hR=>?_
 obtain ⟨h1,h2⟩:=hk v s2 hR
 rw [endLoop_of h1 (by decide),bindS]
 exact h2
end evr
section
variable {G:Nat→Option (Array Value)} {A:Ann (FG G)}
theorem cutJ_same {fl:List (Option Nat)} {s:St (FG G)} {q:Value×St (FG G)}:∀ {L:List (Value×St (FG G))},L≠[]→(∀ p∈L,cutD fl s p.1 p.2=some q)→cutJ fl s L=some [q]:=by
 have key:∀ L:List (Value×St (FG G)),(∀ p∈L,cutD fl s p.1 p.2=some q)→joinO (L.map fun p=>(cutD fl s p.1 p.2).map fun q=>[q])=some (L.map fun _=>q):=by
  intro L h
  induction L with
  | nil=>rfl
  | cons p L ih =>
   rw [List.map_cons,h p (List.mem_cons_self ..)]
   show (joinO (L.map fun p=>(cutD fl s p.1 p.2).map fun q=>[q])).map ([q]++·)=_
   rw [ih fun x hx=>h x (List.mem_cons_of_mem _ hx)]
   rfl
 intro L hL h
 unfold cutJ
 rw [key L h]
 match L,hL with
 | p::L,_ =>
  have hm:∀ y∈L.map (fun _=>q),y=q:=fun x hx=>by obtain ⟨_,_,rfl⟩:=List.mem_map.1 hx; rfl
  show some (mergeL (q::L.map fun _=>q))=_
  congr 1
  exact if_pos hm
def RowV (lo:Nat) (s:St (FG G)) (v:Value) (l:List Nat):Prop:=(l=[]∧v=fzV 2 #[])∨(l≠[]∧∃ id,v=.slice (some ⟨id,0,none⟩) l.length 2∧lo≤id∧id<s.n∧(FG G).get s.h id=some (.row (rowU l)))
theorem RowV.same {lo:Nat} {s s':St (FG G)} {v:Value} {l:List Nat} (h:RowV lo s v l) (hn:s.n≤s'.n) (hk:∀ j,lo≤j→j<s.n→(FG G).get s.h j=some (.row (rowU l))→(FG G).get s'.h j=(FG G).get s.h j):RowV lo s' v l:=by
 rcases h with h | ⟨h0,id,h1,h2,h3,h4⟩
 · exact .inl h
 · exact .inr ⟨h0,id,h1,h2,by omega,by rw [hk id h2 h3 h4]; exact h4⟩
theorem RowV.one {lo:Nat} {s:St (FG G)} {v:Value} {l:List Nat} (h:RowV lo s v l):oneC v=true∧v.cells.toList=[v]:=by
 rcases h with ⟨_,rfl⟩ | ⟨_,id,rfl,_⟩ <;> exact ⟨rfl,rfl⟩
theorem isInt67:isInt prog 67=false:=by unfold isInt; rw [u67]
theorem rowU_one (l:List Nat):(rowU l).all oneC=true:=by
 rw [List.all_eq_true]; intro v hv
 unfold rowU at hv
 obtain ⟨x,_,rfl⟩:=List.mem_map.1 hv; rfl
theorem app_u {lo y x:Nat} {s:St (FG G)} {v:Value} {l:List Nat} (h:RowV lo s v l) (hlo:lo≤s.n) (hy:(FG G).get s.h y=some (.row [U (x:Int)])) (hb:l.length<2^40) :
 ∃ v' s',appD prog true s 67 67 v (.slice (some ⟨y,0,none⟩) 1 3)=some (v',s')∧RowV lo s' v' (l++[x])∧s.n<s'.n∧∀ j,j<lo→(FG G).get s'.h j=(FG G).get s.h j:=by
 have hi:(prog).info? 70=some Try.t70:=by kernel_rfl
 have hz:(Try.t70.size:Nat)=1:=by kernel_rfl
 have hbt:(Try.t70.bytes:Nat)=8:=by kernel_rfl
 have hcy:cellsD s 1 1 (.slice (some ⟨y,0,none⟩) 1 3)=some [U (x:Int)]:=by
  show ((rowD s y).bind fun r=>takeD r 0 (1*1))=_
  rw [row_of hy]
  rfl
 have hey:elemsD s 1 1 (.slice (some ⟨y,0,none⟩) 1 3)=some [.agg #[U (x:Int)]]:=by
  show (cellsD s 1 1 (.slice (some ⟨y,0,none⟩) 1 3)).bind _=_
  rw [hcy]; rfl
 rcases h with ⟨rfl,rfl⟩ | ⟨h0,id,rfl,h2,h3,h4⟩
 · refine ⟨.slice (some ⟨s.n,0,none⟩) 1 2,newD s (.row [U (x:Int)]),?_,.inr ⟨by simp,s.n,rfl,hlo,by rw [newD_n]; omega,get_new rfl⟩,by rw [newD_n]; omega,fun j hj=>get_old (by omega)⟩
   unfold appD
   rw [isInt67,condF]
   unfold appendD
   have hx:lenD (fzV 2 #[])=some 0:=rfl
   have hw:lenD (.slice (some ⟨y,0,none⟩) 1 3)=some 1:=rfl
   simp only [u67,bindS,hi,hw,zr70,hx,hz,hbt]
   rw [show (decide ((0+1)*8≤140737488355328)&&decide (0+1≤140737488355328)&&Nat.beq [Value.int .u64 0].length 1&&Nat.blt 0 1)=true from rfl,condT]
   show (bif fzOk 1 #[] then (elemsD s 1 1 (.slice (some ⟨y,0,none⟩) 1 3)).map (fun new=>cond (true&&Nat.beq 1 0) ((fzV 2 #[]),s) (appNew true s 1 (0+1) ([]++new))) else none)=_
   rw [show fzOk 1 #[]=true from rfl,condT,hey]
   rfl
 · refine ⟨.slice (some ⟨s.n,0,none⟩) (l.length+1) 2,newD (delD s id) (.row (rowU (l++[x]))),?_,.inr ⟨by simp,s.n,by rw [List.length_append]; rfl,hlo,by rw [newD_n,delD_n]; omega,get_new rfl⟩,by rw [newD_n,delD_n]; omega,fun j hj=>by rw [get_old (by rw [delD_n]; omega)]; exact get_del (by omega)⟩
   unfold appD
   rw [isInt67,condF]
   unfold appendD
   have hx:lenD (.slice (some ⟨id,0,none⟩) l.length 2)=some l.length:=rfl
   have hw:lenD (.slice (some ⟨y,0,none⟩) 1 3)=some 1:=rfl
   have hcond:(decide ((l.length+1)*8≤140737488355328)&&decide (l.length+1≤140737488355328)&&Nat.beq [Value.int .u64 0].length 1&&Nat.blt 0 1)=true:=by
    rw [decide_eq_true (by omega),decide_eq_true (by omega)]; rfl
   have ht:takeD (rowU l) 0 (l.length*1)=some (rowU l):=by
    unfold takeD
    rw [List.drop_zero,Nat.mul_one,List.take_of_length_le (by rw [rowU_len]; omega),rowU_len,beq_yes,condT]
   simp only [u67,bindS,hi,hw,zr70,hx,hz,hbt,hcond,condT,hcy,row_of h4]
   rw [show Nat.beq 1 0=false from rfl,condF,show (!([U (x:Int)].all oneC))=false from rfl,condF,show Nat.beq (2 % 2) 1=false from rfl,condF,show Nat.beq (2 / 2) 1=true from rfl,condT,ht]
   show some (Value.slice (some ⟨s.n,0,none⟩) (l.length+1) (2*1),newD (delD s id) (.row (rowU l++[U (x:Int)])))=_
   unfold rowU
   rw [List.map_append]
   rfl
abbrev EN:=Nat×Value×Nat
def entN (e:EN):Value×Value×Nat:=(U (e.1:Int),e.2.1,e.2.2)
def unseen (seen:List Nat) (es:List EN):List EN:=es.filter fun e=>!seen.contains e.2.2
theorem cand_n {es:List EN} {c:Nat} {seen:List Nat} (hc:∀ e∈es,e.2.2<c):candD (es.map entN) c seen=if unseen seen es=[] then [none] else (unseen seen es).map fun e=>some (entN e):=by
 unfold candD
 have e1:(es.map entN).filter (fun e=>!seen.contains e.2.2)=(unseen seen es).map entN:=by
  unfold unseen; rw [List.filter_map]; rfl
 have hu:∀ e∈unseen seen es,e.2.2<c:=fun e he=>hc e (List.mem_filter.1 he).1
 rw [e1]
 have e2:((unseen seen es).map entN).filter (fun e=>Nat.blt e.2.2 c)=(unseen seen es).map entN:=by
  rw [List.filter_eq_self]
  intro e he
  obtain ⟨f,hf,rfl⟩:=List.mem_map.1 he
  show Nat.blt f.2.2 c=true
  rw [blt_dec,decide_eq_true (hu f hf)]
 have e3:((unseen seen es).map entN).filter (fun e=>!Nat.blt e.2.2 c)=[]:=by
  rw [List.filter_eq_nil_iff]
  intro e he
  obtain ⟨f,hf,rfl⟩:=List.mem_map.1 he
  show ¬ (!Nat.blt f.2.2 c)=true
  rw [blt_dec,decide_eq_true (hu f hf)]; simp
 simp only [e2,e3,List.append_nil,List.map_map]
 by_cases h:unseen seen es=[]
 · rw [if_pos h,h]; rfl
 · rw [if_neg h]
   have:((unseen seen es).map entN).isEmpty=false:=by
    cases hq:unseen seen es with
    | nil=>exact absurd hq h
    | cons a b=>rfl
   rw [this,condF,List.nil_append]
   rfl
theorem born_n:∀ (es:List EN) (e:EN) (i:Nat),(∀ f∈es,f.2.2=e.2.2→f=e)→e∈es→∃ j,bornAt e.2.2 (es.map entN) i=some (i+j)∧(es.map entN)[j]?=some (entN e)
 | [],_,_,_,h=>by cases h
 | f::es,e,i,hu,h=>by
  by_cases hf:f.2.2=e.2.2
  · have:f=e:=hu f (List.mem_cons_self ..) hf
    subst this
    refine ⟨0,?_,rfl⟩
    show (bif Nat.beq f.2.2 f.2.2 then some i else _)=_
    rw [beq_yes]; rfl
  · have he:e∈es:=by
     rcases List.mem_cons.1 h with rfl | h
     · exact absurd rfl hf
     · exact h
    obtain ⟨j,h1,h2⟩:=born_n es e (i+1) (fun g hg=>hu g (List.mem_cons_of_mem _ hg)) he
    refine ⟨j+1,?_,by rw [List.map_cons,List.getElem?_cons_succ]; exact h2⟩
    show (bif Nat.beq f.2.2 e.2.2 then some i else bornAt e.2.2 (es.map entN) (i+1))=_
    rw [beq_no hf,condF,h1]
    congr 1; omega
structure MapOk (es:List EN) (c:Nat):Prop where
 lt:∀ e∈es,e.2.2<c
 births:∀ e∈es,∀ f∈es,f.2.2=e.2.2→f=e
 keys:(es.map (·.1)).Nodup
theorem MapOk.key {es:List EN} {c:Nat} (h:MapOk es c):∀ e∈es,∀ f∈es,f.1=e.1→f=e:=by
 have:=h.keys
 clear h
 induction es with
 | nil=>intro e he; cases he
 | cons a es ih =>
  rw [List.map_cons,List.nodup_cons] at this
  intro e he f hf k
  rcases List.mem_cons.1 he with h1 | h1 <;> rcases List.mem_cons.1 hf with h2 | h2
  · rw [h1,h2]
  · exact (this.1 (List.mem_map.2 ⟨f,h2,by rw [k,h1]⟩)).elim
  · exact (this.1 (List.mem_map.2 ⟨e,h1,by rw [← k,h2]⟩)).elim
  · exact ih this.2 e h1 f h2 k
structure SC (A:Ann (FG G)):Prop where
 i:∀ f,f=155∨f=156∨f=196∨f=197∨f=198∨f=210→A.i f=none
 c:∀ f,f=156∨f=196∨f=197∨f=198∨f=210→A.cut f=none
 c155:A.cut 155=some [none]
 r:∀ f,f=155∨f=156∨f=196∨f=197∨f=198→A.row f=false
 r210:A.row 210=true
theorem xt20 (b:Bool) (a c:Value):extractD (.tuple #[.bool b,a,c]) 0=some (.bool b):=rfl
theorem xt21 (b:Bool):extractD (.tuple #[.bool b]) 0=some (.bool b):=rfl
theorem xt22 (k:IntKind) (a:Int) (c:Value):extractD (.tuple #[.int k a,c]) 0=some (.int k a):=rfl
theorem c198 (h:SC A) (hN:A.N=2^64) {n l a1 m c:Nat} {es:List EN} {s:St (FG G)} (g1:(FG G).get s.h a1=some (.row [.map (some m)])) (gm:(FG G).get s.h m=some (.map (es.map entN) c)) (hm:m<s.n) (hok:MapOk es c) (hlen:es.length<2^40) (J:List Nat→St (FG G)→Prop) (h0:J [] (newD s (.iter (some m) c [] c))) (hput:∀ ks s' o,J ks s'→J ks (putD s' s.n o))
 (hcb:∀ (ks:List Nat) (k:Nat) (s':St (FG G)),J ks s'→ks.length<es.length→∃ s2,callD prog A n (.yld l) [U (k:Int)] s'=some [(.bool true,s2)]∧J (ks++[k]) s2∧(FG G).get s2.h m=(FG G).get s'.h m∧(FG G).get s2.h s.n=(FG G).get s'.h s.n) :
 Evr (callD prog A (n+1) (.fn 198) [.func (.yield l) #[] #[],pt a1 0] s) fun v s'=>∃ ks,ks.Perm (es.map (·.1))∧J ks s':=by
 rw [call_fn (fn:=Try.f198) (h.i _ (by decide)) (h.c _ (by decide)) (by kernel_rfl),h.r _ (by decide),f198_r,hN]
 have l1:loadD prog s 156 (pt a1 0)=some (.map (some m)):=by rw [load_row g1,part_one a156]; rfl
 have hr:rangeD prog s 156 (.map (some m))=some (pt s.n 0,newD s (.iter (some m) c [] c)):=by
  unfold rangeD
  rw [u156]
  show (mapD s m).map _=_
  rw [map_of gm]; rfl
 simp only [f198,oO,bindS,many1,jnE,boolS,gdB,fst',snd',l1,o_range,hr]
 refine loop_rule (fun d (x:Value) (s':St (FG G))=>∃ ks seen,d=(unseen seen es).length∧(FG G).get s'.h s.n=some (.iter (some m) c seen c)∧(FG G).get s'.h m=some (.map (es.map entN) c)∧ks.Nodup∧(∀ e∈es,e.2.2∈seen↔e.1∈ks)∧(∀ k∈ks,∃ e∈es,e.1=k)∧J ks s') (fun R=>Evr R fun v s'=>∃ ks,ks.Perm (es.map (·.1))∧J ks s') ?_ (2^64) (unseen [] es).length _ _ ⟨[],[],rfl,get_n0 s _,by rw [get_old (by omega)]; exact gm,List.nodup_nil,fun e _=>by simp,fun k hk=>(by cases hk),h0⟩ (by
  have:(unseen [] es).length≤es.length:=List.length_filter_le _ _
  omega)
 rintro d x s' ⟨ks,seen,rfl,hit,hmm,hnd,hiff,hsub,hJ⟩ nx hnx
 have hgd:(!seen.isEmpty&&!(es.map entN).isEmpty&&(es.map entN).all (fun e=>!Nat.blt e.2.2 c))=false:=by
  cases es with
  | nil=>simp
  | cons e es =>
   have:Nat.blt (entN e).2.2 c=true:=by
    show Nat.blt e.2.2 c=true
    rw [blt_dec,decide_eq_true (hok.lt e (List.mem_cons_self ..))]
   simp [this]
 have hnext:nextsD s' (pt s.n 0)=some ((candD (es.map entN) c seen).map (nextIt s' s.n m c c seen)):=by
  unfold nextsD
  simp only
  rw [hit]
  simp only
  rw [map_of hmm,bindS,hgd,condF]
 rw [cand_n hok.lt] at hnext
 simp only [f198_l0,o_nexts,hnext,bindS]
 by_cases hu:unseen seen es=[]
 · rw [if_pos hu]
   simp only [List.map_cons,List.map_nil,nextIt,oO,bindS,many1,jnE,boolS,gdB,fst',snd',xt21,condF,beq_yes,condT]
   refine Evr.ret ⟨ks,?_,hJ⟩
   rw [List.perm_ext_iff_of_nodup hnd hok.keys]
   intro k
   constructor
   · intro hk
     obtain ⟨e,he,rfl⟩:=hsub k hk
     exact List.mem_map.2 ⟨e,he,rfl⟩
   · intro hk
     obtain ⟨e,he,rfl⟩:=List.mem_map.1 hk
     refine (hiff e he).1 ?_
     rcases Classical.em (e.2.2∈seen) with hh | hh
     · exact hh
     · have:e∈unseen seen es:=List.mem_filter.2 ⟨he,by simp [hh]⟩
       rw [hu] at this; cases this
 · rw [if_neg hu,List.map_map]
   refine evr_many (by simpa using hu) fun p hp=>?_
   obtain ⟨e,he,rfl⟩:=List.mem_map.1 hp
   have hee:e∈es:=(List.mem_filter.1 he).1
   have hns:e.2.2∉seen:=by simpa using (List.mem_filter.1 he).2
   have hnk:e.1∉ks:=fun hh=>hns ((hiff e hee).2 hh)
   show Evr ((extractD (.tuple #[.bool true,U (e.1:Int),e.2.1]) 0).bind _) _
   have git:(FG G).get (putD s' s.n (.iter (some m) c (seen++[e.2.2]) c)).h s.n=some (.iter (some m) c (seen++[e.2.2]) c):=get_put_same _
   have gmm:(FG G).get (putD s' s.n (.iter (some m) c (seen++[e.2.2]) c)).h m=some (.map (es.map entN) c):=by rw [get_put_other (by omega)]; exact hmm
   have hen:entryD (putD s' s.n (.iter (some m) c (seen++[e.2.2]) c)) (pt s.n 0)=some (.tuple #[U (e.1:Int),e.2.1]):=by
    obtain ⟨j,b1,b2⟩:=born_n es e 0 (hok.births e hee) hee
    unfold entryD
    simp only
    rw [git]
    simp only
    rw [List.getLast?_append,List.getLast?_singleton,Option.some_or,bindS,map_of gmm,bindS,beq_yes,condT,b1,bindS,Nat.zero_add,b2]
    rfl
   have hj:=hput ks s' (.iter (some m) c (seen++[e.2.2]) c) hJ
   have hlt:ks.length<es.length:=by
    have hp:ks.length+1≤es.length:=by
      have hnd2:(e.1::ks).Nodup:=List.nodup_cons.2 ⟨hnk,hnd⟩
      have:=List.Nodup.length_le_of_subset hnd2 (l₂:=es.map (·.1)) (by
        intro k hk
        rcases List.mem_cons.1 hk with rfl | hk
        · exact List.mem_map.2 ⟨e,hee,rfl⟩
        · obtain ⟨f,hf,rfl⟩:=hsub k hk
          exact List.mem_map.2 ⟨f,hf,rfl⟩)
      rw [List.length_map] at this
      exact this
    omega
   obtain ⟨s2,k1,k2,k3,k4⟩:=hcb ks e.1 _ hj hlt
   simp only [oO,bindS,many1,jnE,boolS,gdB,fst',snd',xt20,condT,o_entry,nextIt,Function.comp,show (entN e).2.2=e.2.2 from rfl,hen,xt22,tgt_yld,k1,uop_not,Bool.not_true,condF]
   refine hnx (unseen (seen++[e.2.2]) es).length _ _ ?_ ⟨ks++[e.1],seen++[e.2.2],rfl,by rw [k4]; exact git,by rw [k3]; exact gmm,?_,fun f hf=>?_,fun k hk=>?_,k2⟩
   · have e1:unseen (seen++[e.2.2]) es=(unseen seen es).filter fun f=>!(f.2.2 == e.2.2):=by
      unfold unseen
      rw [List.filter_filter]
      congr 1
      funext f
      simp only [List.contains_append,List.contains_cons,List.contains_nil,Bool.or_false,Bool.not_or]
      rw [Bool.and_comm]
     rw [e1]
     refine List.length_filter_lt_length_iff_exists.2 ⟨e,he,by simp⟩
   · rw [List.nodup_append]
     refine ⟨hnd,by simp,fun a ha b hb=>?_⟩
     rw [List.mem_singleton] at hb
     subst hb
     rintro rfl
     exact hnk ha
   · rw [List.mem_append,List.mem_append,List.mem_singleton,List.mem_singleton,hiff f hf]
     constructor
     · rintro (h1 | h1)
       · exact .inl h1
       · exact .inr (by rw [hok.births e hee f hf h1])
     · rintro (h1 | h1)
       · exact .inl h1
       · exact .inr (by rw [hok.key e hee f hf h1])
   · rcases List.mem_append.1 hk with hk | hk
     · exact hsub k hk
     · rw [List.mem_singleton] at hk
       exact ⟨e,hee,hk.symm⟩
end
end Go.Proofs.Ytmhmbmogodofeaa.S
namespace Go.Proofs.Ytmhmbmogodofeaa.S
open Go.FS Go.RowKit
open Go.Proofs.Try (prog)
attribute [local congr] bind_cg cond_cg gd_cg
open Go.FS.Q
section
variable {G:Nat→Option (Array Value)} {A:Ann (FG G)}
theorem bodied198:bodied prog 198=true:=by kernel_rfl
theorem bs67r (s:St (FG G)) (x:Nat):buildSliceD prog true s 67 1 [(0,U (x:Int))]=some (.slice (some ⟨s.n,0,none⟩) 1 3,newD s (.row [U (x:Int)])):=by kernel_rfl
theorem c156 (h:SC A) {n:Nat} {s:St (FG G)} (m:Nat):callD prog A (n+1) (.fn 156) [.map (some m)] s=some [(.func (.func 198) #[] #[pt s.n 0],newD s (.row [.map (some m)]))]:=by
 rw [call_fn (fn:=Try.f156) (h.i _ (by decide)) (h.c _ (by decide)) (by kernel_rfl),h.r _ (by decide),f156_r]
 have hb:boxD s (.map (some m))=some (pt s.n 0,newD s (.row [.map (some m)])):=box_at rfl rfl
 simp only [f156,oO,bindS,many1,jnE,boolS,gdB,fst',snd',hb]
theorem c210 (h:SC A) (hN:A.N=2^64) {n a1 m c:Nat} {es:List EN} {s:St (FG G)} (g1:(FG G).get s.h a1=some (.row [.map (some m)])) (gm:(FG G).get s.h m=some (.map (es.map entN) c)) (ha:a1<s.n) (hm:m<s.n) (hok:MapOk es c) (hlen:es.length<2^40) :
 Evr (callD prog A (n+3) (.fn 210) [fzV 2 #[],.func (.func 198) #[] #[pt a1 0]] s) fun v s'=>∃ ks,ks.Perm (es.map (·.1))∧RowV s.n s' v ks∧s.n≤s'.n∧∀ j,j<s.n→(FG G).get s'.h j=(FG G).get s.h j:=by
 rw [call_fn (fn:=Try.f210) (h.i _ (by decide)) (h.c _ (by decide)) (by kernel_rfl),h.r210,f210_r]
 have hb:boxD s (fzV 2 #[])=some (pt s.n 0,newD s (.row [fzV 2 #[]])):=box_at rfl rfl
 simp only [f210,oO,bindS,many1,jnE,boolS,gdB,fst',snd',hb]
 have hsn:(newD s (.row [fzV 2 #[]])).n=s.n+1:=newD_n _ _
 have g0:(FG G).get (newD s (.row [fzV 2 #[]])).h s.n=some (.row [fzV 2 #[]]):=get_new rfl
 have gk:∀ j,j<s.n→(FG G).get (newD s (.row [fzV 2 #[]])).h j=(FG G).get s.h j:=fun j hj=>get_old (by omega)
 generalize newD s (.row [fzV 2 #[]])=s5 at *
 generalize htl:[fzV 2 #[],Value.func (.func 198) #[] #[pt a1 0],_,_,_,_,_,_,_,_,_,_,_]=tl
 have ht:tgtD (.func (.func 198) #[] #[pt a1 0]) [.func (.yield s5.n) #[] #[]]=some (.fn 198,[.func (.yield s5.n) #[] #[],pt a1 0]):=rfl
 refine rng_evr ht bodied198 (R:=fun v s'=>∃ ks,ks.Perm (es.map (·.1))∧(s.n+3≤s'.n∧(∀ j,j<s.n→(FG G).get s'.h j=(FG G).get s.h j)∧(FG G).get s'.h s5.n=some (.loop 0 none 210 tl [7] (cdp Try.f210 [1,0,1,0,0]) (cdp Try.f210 [1,0,1,0,1]))∧∃ v,(FG G).get s'.h s.n=some (.row [v])∧RowV (s.n+3) s' v ks)) ?_ ?_
 · refine c198 h hN (m:=m) (c:=c) (es:=es) (by rw [get_old (by omega),gk a1 ha]; exact g1) (by rw [get_old (by omega),gk m hm]; exact gm) (by rw [newD_n]; omega) hok hlen (fun ks s'=>s.n+3≤s'.n∧(∀ j,j<s.n→(FG G).get s'.h j=(FG G).get s.h j)∧(FG G).get s'.h s5.n=some (.loop 0 none 210 tl [7] (cdp Try.f210 [1,0,1,0,0]) (cdp Try.f210 [1,0,1,0,1]))∧∃ v,(FG G).get s'.h s.n=some (.row [v])∧RowV (s.n+3) s' v ks) ?_ ?_ ?_
   · refine ⟨by rw [newD_n,newD_n]; omega,fun j hj=>by rw [get_old (by rw [newD_n]; omega),get_old (by omega),gk j hj],by rw [get_old (by rw [newD_n]; omega),get_new rfl],fzV 2 #[],by rw [get_old (by rw [newD_n]; omega),get_old (by omega),g0],.inl ⟨rfl,rfl⟩⟩
   · rintro ks s' o ⟨h1,h2,h3,v,h4,h5⟩
     rw [newD_n]
     refine ⟨by rw [putD_n]; exact h1,fun j hj=>by rw [get_put_other (by omega)]; exact h2 j hj,by rw [get_put_other (by omega)]; exact h3,v,by rw [get_put_other (by omega)]; exact h4,h5.same (by rw [putD_n]; exact Nat.le_refl _) fun j hj _ _=>get_put_other (by omega)⟩
   · rintro ks k s' ⟨h1,h2,h3,v,h4,h5⟩ hkl
     rw [newD_n]
     have hr:roundD prog A.row (callD prog A n) A.N s5.n [U (k:Int)] s'=f210_r0 (dOps prog) (callD prog A n) A.N s5.n (pt s.n 0) (U (k:Int)) s':=by
      subst htl
      exact f210_r0_e h.r210 (loop_of h3) _
     rw [call_yld,hr]
     have q0:(FG G).get (putD s' s5.n (.loop 1 none 210 tl [7] (cdp Try.f210 [1,0,1,0,0]) (cdp Try.f210 [1,0,1,0,1]))).h s5.n=some (.loop 1 none 210 tl [7] (cdp Try.f210 [1,0,1,0,0]) (cdp Try.f210 [1,0,1,0,1])):=get_put_same _
     have q1:(FG G).get (putD s' s5.n (.loop 1 none 210 tl [7] (cdp Try.f210 [1,0,1,0,0]) (cdp Try.f210 [1,0,1,0,1]))).h s.n=some (.row [v]):=by rw [get_put_other (by omega)]; exact h4
     have q2:RowV (s.n+3) (putD s' s5.n (.loop 1 none 210 tl [7] (cdp Try.f210 [1,0,1,0,0]) (cdp Try.f210 [1,0,1,0,1]))) v ks:=h5.same (by rw [putD_n]; exact Nat.le_refl _) fun j hj _ _=>get_put_other (by omega)
     have q3:∀ j,j≠s5.n→(FG G).get (putD s' s5.n (.loop 1 none 210 tl [7] (cdp Try.f210 [1,0,1,0,0]) (cdp Try.f210 [1,0,1,0,1]))).h j=(FG G).get s'.h j:=fun j hj=>get_put_other hj
     have q4:(putD s' s5.n (.loop 1 none 210 tl [7] (cdp Try.f210 [1,0,1,0,0]) (cdp Try.f210 [1,0,1,0,1]))).n=s'.n:=putD_n _ _ _
     simp only [f210_r0,oO,bindS,many1,jnE,boolS,gdB,fst',snd',begin_of h3]
     generalize putD s' s5.n (.loop 1 none 210 tl [7] (cdp Try.f210 [1,0,1,0,0]) (cdp Try.f210 [1,0,1,0,1]))=s9 at *
     have lv:loadD prog s9 67 (pt s.n 0)=some v:=by rw [load_row q1,part_one a67]; rfl
     have q5:RowV (s.n+3) (newD s9 (.row [U (k:Int)])) v ks:=q2.same (by rw [newD_n]; omega) fun j _ hj _=>get_old (by omega)
     obtain ⟨v',s10,e1,w1,w2,w3⟩:=app_u (y:=s9.n) (x:=k) q5 (by rw [newD_n]; omega) (get_n0 s9 _) (by omega)
     rw [newD_n] at w2
     have w4:∀ j,j<s.n+3→(FG G).get s10.h j=(FG G).get s9.h j:=fun j hj=>by rw [w3 j hj]; exact get_old (by omega)
     have r1:(FG G).get s10.h s.n=some (.row [v]):=by rw [w4 _ (by omega)]; exact q1
     have stv:storeD prog s10 67 (pt s.n 0) v'=some (putD s10 s.n (.row [v'])):=by
      rw [store_row z67 r1 w1.one.2 rfl (by simp [w1.one.1]) (by simp)]; rfl
     have r2:(FG G).get (putD s10 s.n (.row [v'])).h s5.n=some (.loop 1 none 210 tl [7] (cdp Try.f210 [1,0,1,0,0]) (cdp Try.f210 [1,0,1,0,1])):=by rw [get_put_other (by omega),w4 _ (by omega)]; exact q0
     simp only [lv,bs67r,oO,bindS,many1,jnE,boolS,gdB,fst',snd',e1,stv,setLoop_of r2,Option.map_some]
     refine ⟨_,rfl,⟨by rw [putD_n,putD_n]; omega,fun j hj=>by rw [get_put_other (by omega),get_put_other (by omega),w4 j (by omega),q3 j (by omega)]; exact h2 j hj,get_put_same _,v',by rw [get_put_other (by omega)]; exact get_put_same _,w1.same (by rw [putD_n,putD_n]; exact Nat.le_refl _) fun j hj _ _=>by rw [get_put_other (by omega),get_put_other (by omega)]⟩,?_,?_⟩
     · rw [get_put_other (by omega),get_put_other (by omega),w4 m (by omega),q3 m (by omega)]
     · rw [get_put_other (by omega),get_put_other (by omega),w4 _ (by omega),q3 _ (by omega)]
 · rintro v s2 ⟨ks,hp,h1,h2,h3,w,h4,h5⟩
   refine ⟨h3,?_⟩
   have hr:(FG G).get (delD s2 s5.n).h s.n=some (.row [w]):=by rw [get_del (by omega)]; exact h4
   have lv:loadD prog (delD s2 s5.n) 67 (pt s.n 0)=some w:=by rw [load_row hr,part_one a67]; rfl
   simp only [oO,bindS,many1,jnE,boolS,gdB,fst',snd',lv]
   refine Evr.ret ⟨ks,hp,?_,by rw [delD_n]; omega,fun j hj=>by rw [get_del (by omega)]; exact h2 j hj⟩
   have h6:RowV (s.n+3) (delD s2 s5.n) w ks:=h5.same (by rw [delD_n]; exact Nat.le_refl _) fun j hj _ _=>get_del (by omega)
   rcases h6 with h6 | ⟨a,id,b1,b2,b3⟩
   · exact .inl h6
   · exact .inr ⟨a,id,b1,by omega,b3⟩
theorem c196 (h:SC A) (hN:A.N=2^64) {n a1 m c:Nat} {es:List EN} {s:St (FG G)} (g1:(FG G).get s.h a1=some (.row [.map (some m)])) (gm:(FG G).get s.h m=some (.map (es.map entN) c)) (ha:a1<s.n) (hm:m<s.n) (hok:MapOk es c) (hlen:es.length<2^40) :
 Evr (callD prog A (n+4) (.fn 196) [.func (.func 198) #[] #[pt a1 0]] s) fun v s'=>∃ ks,ks.Perm (es.map (·.1))∧RowV s.n s' v ks∧s.n≤s'.n∧∀ j,j<s.n→(FG G).get s'.h j=(FG G).get s.h j:=by
 rw [call_fn (fn:=Try.f196) (h.i _ (by decide)) (h.c _ (by decide)) (by kernel_rfl),h.r _ (by decide),f196_r]
 unfold f196
 exact Evr.bind (c210 h hN g1 gm ha hm hok hlen) fun v s' hR=>Evr.ret hR
theorem c211n (h:SA A) (hN:A.N=2^64) {n:Nat} {s:St (FG G)} (lim:Nat):callD prog A (n+4) (.fn 211) [fzV 2 #[],I 0,I 0,I (lim:Int)] s=some [(.tuple #[],s)]:=by
 rw [call_fn (fn:=Try.f211) (h.i _ (by decide) (by decide)) (h.c _ (by decide) (by decide)) (by kernel_rfl),h.r _ (by decide) (by decide),f211_r,hN]
 have e214:callD prog A (n+3) (.fn 214) [fzV 2 #[],I 0,I 0] s=some [(.tuple #[],s)]:=by
  rw [call_fn (fn:=Try.f214) (h.i _ (by decide) (by decide)) (h.c _ (by decide) (by decide)) (by kernel_rfl),h.r _ (by decide) (by decide),f214_r,hN]
  have w:IntKind.i64.wrap (0+1)=1:=by rw [wrap_i64 (by omega) (by omega)]; rfl
  unfold f214
  rw [oi,bop_add,w,bindS,show (2^64:Nat)=(2^64-1)+1 from rfl,iterS_succ]
  simp only [f214_l0,oi,oa,bop_lss,bindS,boolS,show ¬ ((1:Int)<0) from by omega,decide_false,condF,beq_yes,condT]
 unfold f211
 have w:IntKind.i64.wrap (0-0)=0:=by rw [wrap_i64 (by omega) (by omega)]; rfl
 rw [show (2^64:Nat)=(2^64-1)+1 from rfl,iterS_succ]
 simp only [f211_l0,oi,oa,b_sub,w,bop_leq,bindS,boolS,show (0:Int)≤12 from by omega,decide_true,condT,e214,many1]
theorem c197 (h:SC A) (hA:SA A) (hB:SB A) (hN:A.N=2^64) {lo n:Nat} {s:St (FG G)} {v:Value} {ks:List Nat} (hv:RowV lo s v ks) (hlen:ks.length<2^40) (hn:ks.length+30≤n) :
 ∃ ms s',ms.Perm ks∧ms.Pairwise (·≤·)∧RowV lo s' v ms∧s.n≤s'.n∧(∀ j,j<s.n→j<lo→(FG G).get s'.h j=(FG G).get s.h j)∧callD prog A n (.fn 197) [v] s=some [(.tuple #[],s')]:=by
 obtain ⟨e,rfl⟩:∃ e,n=e+1:=⟨n-1,by omega⟩
 rw [call_fn (fn:=Try.f197) (h.i _ (by decide)) (h.c _ (by decide)) (by kernel_rfl),h.r _ (by decide),f197_r]
 have hl:lenOfD prog s 67 v=some (I (ks.length:Int)):=by
  unfold lenOfD
  rw [u67]
  rcases hv with ⟨rfl,rfl⟩ | ⟨_,id,rfl,_⟩ <;> rfl
 have w:IntKind.u64.wrap (ks.length:Int)=(ks.length:Int):=wrap_u64 (by omega) (by omega)
 have e132:=c132 hB (n:=e-2) (s:=s) ks.length (by omega)
 rw [Nat.sub_add_cancel (by omega)] at e132
 have h40:=len8_40 hlen
 simp only [f197,oO,bindS,many1,jnE,boolS,gdB,fst',snd',hl,conv_int u3 u201,w,e132]
 rcases hv with ⟨rfl,rfl⟩ | ⟨h0,id,rfl,h2,h3,h4⟩
 · have e211:=c211n hA hN (n:=e-4) (s:=s) (len8 0)
   rw [Nat.sub_add_cancel (by omega)] at e211
   refine ⟨[],s,.refl _,.nil,.inl ⟨rfl,rfl⟩,Nat.le_refl _,fun _ _ _=>rfl,?_⟩
   have e211:callD prog A e (.fn 211) [fzV 2 #[],I 0,I (([]:List Nat).length:Int),I (len8 ([]:List Nat).length:Int)] s=some [(.tuple #[],s)]:=e211
   simp only [e211,oO,bindS,many1,jnE,boolS,gdB,fst',snd']
 · obtain ⟨m,s',k1,k2,k3,k4,e211⟩:=c211 hA hB hN (id:=id) (c:=2) hlen ks.length (e-1) 0 ks.length (len8 ks.length) s ks rfl h4 h3 (by omega) (by omega) (Nat.zero_le _) (Nat.le_refl _) (by omega) (.inl rfl)
   rw [Nat.sub_add_cancel (by omega),show ((0:Nat):Int)=0 from rfl] at e211
   refine ⟨m,s',k1.perm,?_,.inr ⟨fun hm=>h0 (by rw [hm] at k1; exact k1.perm.symm.eq_nil),id,by rw [k1.len],h2,by have:=k3.1; omega,k4⟩,k3.1,fun j hj hlo=>k3.2 j hj (by omega),?_⟩
   · rw [List.pairwise_iff_getElem]
     intro i j hi hj hij
     have hml:=k1.len
     rw [gt_of hi,gt_of hj]
     exact k2 i j (Nat.zero_le _) (Nat.le_of_lt hij) (by omega)
   · simp only [e211,oO,bindS,many1,jnE,boolS,gdB,fst',snd']
theorem perm_sorted {l m:List Nat} (h:l.Perm m) (h1:l.Pairwise (·≤·)) (h2:m.Pairwise (·≤·)):l=m :=
 List.Perm.eq_of_pairwise (le:=(·≤·)) (fun a b _ _ q1 q2=>Nat.le_antisymm q1 q2) h1 h2 h
def keysOf (es:List EN):List Nat:=(es.map (·.1)).mergeSort
theorem keysOf_perm (es:List EN):(keysOf es).Perm (es.map (·.1)):=List.mergeSort_perm _ _
theorem keysOf_sorted (es:List EN):(keysOf es).Pairwise (·≤·):=by
 have:=List.pairwise_mergeSort (le:=fun a b:Nat=>decide (a≤b)) (fun a b c h1 h2=>by simp at *; omega) (fun a b=>by simp; omega) (es.map (·.1))
 exact this.imp fun h=>by simpa using h
def uN (x:Nat):List Value:=[U (x:Int)]
theorem chunk_one (l:List Value):chunkL 1 l.length l=l.map fun c=>.agg #[c]:=by
 unfold chunkL
 apply List.ext_getElem
 · simp
 · intro i h1 h2
   have hi:i<l.length:=by simpa using h2
   simp only [List.getElem_map,List.getElem_range,Nat.mul_one]
   rw [List.drop_eq_getElem_cons hi]
   rfl
theorem uN_strip (n:Nat) (x:Nat):(uN x).map (stripN 6 n)=uN x:=rfl
theorem uN_bel (n:Nat) (x:Nat):∀ v∈uN x,Bel n v:=fun v hv=>by
 simp only [uN,List.mem_cons,List.not_mem_nil,or_false] at hv
 subst hv; exact .int _ _
theorem cut_rowV {s s':St (FG G)} {v:Value} {ks:List Nat} (hv:RowV s.n s' v ks) (hn:s.n≤s'.n) (hk:∀ j,j<s.n→(FG G).get s'.h j=(FG G).get s.h j):cutD [none] s v s'=some (sl uN (if ks=[] then 2 else 0) ks,s):=by
 rcases hv with ⟨rfl,rfl⟩ | ⟨h0,id,rfl,h2,h3,h4⟩
 · rw [if_pos rfl]
   have hE:Ext s s':=⟨hn,hk⟩
   have hbel:Bel s.n (fzV 2 #[]):=bel_sl (enc:=uN) (xs:=[]) (m:=2) (by omega) fun x=>uN_bel s.n x
   unfold cutD
   have e0:frzT s.n s' (fzV 2 #[])=(fzV 2 #[],s'):=rfl
   rw [e0]
   unfold cutD0
   rw [if_pos ⟨hE.1,fun i hi=>.inl (hE.2 i hi),by decide⟩]
   show cutC s s' (mrg s s') none (fzV 2 #[])=_
   have hst:stripN 8 s.n (fzV 2 #[])=fzV 2 #[]:=by
    have:=strip_sl' (enc:=uN) (uN_strip s.n) 2 []
    rw [show (bif Nat.blt 2 (s.n+3) then 2 else 0)=2 from by rw [blt_dec,decide_eq_true (by omega)]; rfl] at this
    exact this
   unfold cutC
   simp only
   rw [hst,if_pos hbel,mrg_same hE]
   rfl
 · rw [if_neg h0]
   have hch:(chunkL (2 / 2) ks.length (rowU ks)).toArray=((ks.map uN).map fun e=>Value.agg e.toArray).toArray:=by
    have:=chunk_one (rowU ks)
    rw [rowU_len] at this
    show (chunkL 1 ks.length (rowU ks)).toArray=_
    rw [this]
    unfold rowU
    rw [List.map_map,List.map_map]
    rfl
   have tk:takeD (rowU ks) 0 (ks.length*(2 / 2))=some (rowU ks):=by
    unfold takeD
    rw [List.drop_zero,show 2 / 2=1 from rfl,List.take_of_length_le (by rw [rowU_len]; omega),rowU_len,Nat.mul_one,beq_yes,condT]
   have e0:frzT s.n s' (.slice (some ⟨id,0,none⟩) ks.length 2)=(sl uN 0 ks,delD s' id):=by
    show frz1 s.n s' (.slice (some ⟨id,0,none⟩) ks.length 2)=_
    unfold frz1
    simp only
    rw [if_pos ⟨h2,by decide⟩,row_of h4,Option.bind_some,tk]
    simp only
    rw [if_pos (rowU_one ks),hch]
    rfl
   have hE:Ext s (delD s' id):=⟨by rw [delD_n]; exact hn,fun j hj=>by rw [get_del (by omega)]; exact hk j hj⟩
   have hst:stripN 8 s.n (sl uN 0 ks)=sl uN 0 ks:=by
    rw [strip_sl' (uN_strip s.n)]
    have:(bif Nat.blt 0 (s.n+3) then 0 else 0)=0:=by cases Nat.blt 0 (s.n+3) <;> rfl
    rw [this]
   have hbel:Bel s.n (sl uN 0 ks):=bel_sl (by omega) fun x=>uN_bel s.n x
   unfold cutD
   rw [e0]
   unfold cutD0
   rw [if_pos ⟨hE.1,fun i hi=>.inl (hE.2 i hi),by decide⟩]
   show cutC s (delD s' id) (mrg s (delD s' id)) none (sl uN 0 ks)=_
   unfold cutC
   simp only
   rw [hst,if_pos hbel,mrg_same hE]
theorem c155 (h:SC A) (hA:SA A) (hB:SB A) (hN:A.N=2^64) {n a1 m c:Nat} {es:List EN} {s:St (FG G)} (g1:(FG G).get s.h a1=some (.row [.map (some m)])) (gm:(FG G).get s.h m=some (.map (es.map entN) c)) (ha:a1<s.n) (hm:m<s.n) (hok:MapOk es c) (hlen:es.length<2^40) (hn:es.length+30≤n) :
 callD prog A (n+1) (.fn 155) [.func (.func 198) #[] #[pt a1 0]] s=some [(sl uN (if es=[] then 2 else 0) (keysOf es),s)]:=by
 rw [call_cut (fl:=[none]) (fn:=Try.f155) (h.i _ (by decide)) h.c155 (by kernel_rfl),h.r _ (by decide),f155_r]
 have hrun:Evr (f155 (dOps prog) (callD prog A n) A.N (.func (.func 198) #[] #[pt a1 0]) s) fun v s'=>RowV s.n s' v (keysOf es)∧s.n≤s'.n∧∀ j,j<s.n→(FG G).get s'.h j=(FG G).get s.h j:=by
  unfold f155
  obtain ⟨e,rfl⟩:∃ e,n=e+4:=⟨n-4,by omega⟩
  refine Evr.bind (c196 h hN g1 gm ha hm hok hlen) fun v s1 hR=>?_
  obtain ⟨ks,k1,k2,k3,k4⟩:=hR
  have hkl:ks.length=es.length:=by rw [k1.length_eq,List.length_map]
  obtain ⟨ms,s2,q1,q2,q3,q4,q5,e197⟩:=c197 h hA hB hN (n:=e+4) k2 (by omega) (by omega)
  rw [e197,bindS,many1]
  have:ms=keysOf es:=perm_sorted ((q1.trans k1).trans (keysOf_perm es).symm) q2 (keysOf_sorted es)
  subst this
  exact Evr.ret ⟨q3,Nat.le_trans k3 q4,fun j hj=>by rw [q5 j (by omega) hj]; exact k4 j hj⟩
 obtain ⟨L,e,h1,h2⟩:=hrun
 rw [e,bindS]
 have hke:(if keysOf es=[] then 2 else 0)=if es=[] then 2 else 0:=by
  have:=(keysOf_perm es).length_eq
  rw [List.length_map] at this
  by_cases he:es=[]
  · subst he
    have:keysOf []=[]:=List.length_eq_zero_iff.1 this
    rw [if_pos this,if_pos rfl]
  · rw [if_neg he,if_neg]
    intro hk
    rw [hk] at this
    exact he (List.length_eq_zero_iff.1 this.symm)
 rw [← hke]
 exact cutJ_same h1 fun p hp=>cut_rowV (h2 p hp).1 (h2 p hp).2.1 (h2 p hp).2.2
end
end Go.Proofs.Ytmhmbmogodofeaa.S
