import Derived.Test.YtmhmbmogodofeaaCX
set_option linter.unusedVariables false
set_option linter.unusedSimpArgs false
set_option maxRecDepth 100000
namespace Go.Proofs.Ytmhmbmogodofeaa.S
open Go.FS Go.RowKit
open Go.Proofs.Try (prog)
attribute [local congr] bind_cg cond_cg gd_cg
open Go.FS.Q
theorem f110in {n N q mm:Nat} {s0 s1:SH} {v:Value} {bs0:List UInt8} {R:List EL} {e:EL} {i:Nat} {kx:Nat→(Value×Value×Value)→SH→Option (List (Value×SH))} {kr:(Value×Value×Value)→SH→Option (List (Value×SH))} {Q:Value→SH→Prop} (hg:HP.get s0.h q=some (.row [sl enE mm R])) (hq:q<s0.n) (hiR:i<R.length) (he:R[i]=e) (hG:GB s0 s1 v bs0) (hS:SpOk true 0 e.2.1) (hl:e.2.1.length≤1000) (hb:bs0.length≤2^40)
 (hk:∀ v2 s2 a b,GB s0 s2 v2 (bs0++spB 0 e.2.1)→Ext s1 s2→(bs0++spB 0 e.2.1).length≤bs0.length+20*e.2.1.length→One (kx 2 (v2,a,b) s2) Q) :
 One (iterS (f110_l1 (dOps (H:=HP) prog) (callD prog AT (n+1)) N (pt q 0) (I (i:Int))) kx kr (2^64) (v,I 0,I 0) s1) Q:=by
 have ixe:=ixE (mm:=mm) hiR
 rw [he] at ixe
 have hlen:∀ s:SH,lenOfD prog s 80 (sl rg e.2.2 (e.2.1.map toRg))=some (I (e.2.1.length:Int)):=fun s=>by rw [len_sl u80,List.length_map]
 have E1:Ext s0 s1:=hG.choose_spec.2.2
 refine list_one e.2.1 (fun j (z:Value×Value×Value) (s':SH)=>∃ (to:Nat) (bs:List UInt8) (first:Bool),z.2.1=I (to:Int)∧z.2.2=I (j:Int)∧GB s0 s' z.1 bs∧Ext s1 s'∧bs++spB to (e.2.1.drop j)=bs0++spB 0 e.2.1∧SpOk first to (e.2.1.drop j)∧bs.length≤bs0.length+20*j∧to≤MT) ?_ ?_ ⟨0,bs0,true,rfl,rfl,hG,.refl _,by rw [List.drop_zero],by rw [List.drop_zero]; exact hS,by omega,by decide⟩ (by omega)
 · rintro j hj ⟨z1,z2,z3⟩ s' ⟨to,bs,first,e2,e3,hG,hE,hcat,hS,hlen2,hto⟩ nx hnx
   simp only at e2 e3 hG
   subst e2 e3
   have hMT:MT=35184372088832:=rfl
   have hgs:HP.get s'.h q=some (.row [sl enE mm R]):=by rw [(E1.trans hE).2 q hq]; exact hg
   have hd:e.2.1.drop j=e.2.1[j]::e.2.1.drop (j+1):=List.drop_eq_getElem_cons hj
   rw [hd] at hcat hS
   have ix:indexAddrD prog 80 (sl rg e.2.2 (e.2.1.map toRg)) (I (j:Int))=some (fpV (rg (toRg e.2.1[j])).toArray 0):=by
    have:=ixr (m:=e.2.2) (l:=e.2.1.map toRg) (i:=j) (by rw [List.length_map]; exact hj)
    rw [List.getElem_map] at this
    exact this
   generalize e.2.1[j]=x at *
   obtain ⟨o1,o2,o3,o4,o5⟩:=hS
   have lt:(j:Int)<(e.2.1.length:Int):=by omega
   have ld:loadD prog s' 69 (fpV (rg (toRg x)).toArray 0)=some (.agg (rg (toRg x)).toArray):=by rw [load_fp,part_agg a69 z69 (l:=rg (toRg x)) rfl rfl]
   have al:allocD prog s' 69=some (pt s'.n 0,newD s' (.row (rg (0,0)))):=alloc_at zr69
   have st:storeD prog (newD s' (.row (rg (0,0)))) 69 (pt s'.n 0) (.agg (rg (toRg x)).toArray)=some (newD s' (.row (rg (toRg x)))):=st_n0 s' z69 rfl rfl rfl
   have gx:HP.get (newD s' (.row (rg (toRg x)))).h s'.n=some (.row (rg (toRg x))):=get_n0 s' _
   have w1:IntKind.i64.wrap ((x.1:Int)-(to:Int))=((x.1-to:Nat):Int):=by rw [wrap_i64 (by omega) (by omega)]; omega
   have w2:IntKind.u64.wrap ((x.1-to:Nat):Int)=((x.1-to:Nat):Int):=wrap_u64 (by omega) (by omega)
   have w3:IntKind.i64.wrap ((x.2:Int)-(x.1:Int))=((x.2-x.1:Nat):Int):=by rw [wrap_i64 (by omega) (by omega)]; omega
   have w4:IntKind.u64.wrap ((x.2-x.1:Nat):Int)=((x.2-x.1:Nat):Int):=wrap_u64 (by omega) (by omega)
   have w5:IntKind.i64.wrap ((j:Int)+1)=((j+1:Nat):Int):=by rw [wrap_i64 (by omega) (by omega)]; rfl
   have l0:loadD prog (newD s' (.row (rg (toRg x)))) 3 (pt s'.n 0)=some (I (x.1:Int)):=ld3at gx rfl
   have hE1:Ext s' (newD s' (.row (rg (toRg x)))):=(Ext.refl s').new _
   obtain ⟨v2,s2,e72,G2,E2⟩:=put157 (n:=n) (x:=x.1-to) (hG.new (.row (rg (toRg x)))) (by omega) (by omega)
   have gx2:HP.get s2.h s'.n=some (.row (rg (toRg x))):=by rw [E2.2 _ (by rw [newD_n]; omega)]; exact gx
   have l1:loadD prog (newD s' (.row (rg (toRg x)))) 3 (pt s'.n 1)=some (I (x.2:Int)):=ld3at gx rfl
   have l20:loadD prog s2 3 (pt s'.n 0)=some (I (x.1:Int)):=ld3at gx2 rfl
   have l21:loadD prog s2 3 (pt s'.n 1)=some (I (x.2:Int)):=ld3at gx2 rfl
   have hl1:=vput_len10 (x:=x.1-to) (by omega)
   have hl2:=vput_len10 (x:=x.2-x.1) (by omega)
   obtain ⟨v3,s3,e72b,G3,E3⟩:=put157 (n:=n) (x:=x.2-x.1) G2 (by omega) (by rw [List.length_append]; omega)
   have gx3:HP.get s3.h s'.n=some (.row (rg (toRg x))):=by rw [E3.2 _ (by have:=E2.1; rw [newD_n] at this; omega)]; exact gx2
   have l31:loadD prog s3 3 (pt s'.n 1)=some (I (x.2:Int)):=ld3at gx3 rfl
   have e72:=oneS e72
   have e72b:=oneS e72b
   simp only [f110_l1,oO,bindS,many1,jnE,boolS,gdB,fst',snd',nilq,fld93_0,ld91 hgs,ixe,flf171_1,ldE1,hlen,bop_lss,lt,decide_true,condT,ix,ld,al,st,fld69_0,fld69_1,l0,l1,l20,l21,l31,b_sub,w1,w3,conv_int u3 u70,w2,w4,e72,e72b,Option.map_some,eqO_s,Bool.and_true,bop_add,w5]
   refine hnx (_,_,_) _ ⟨x.2,_,false,rfl,rfl,G3,(hE.trans hE1).trans (E2.trans E3),?_,o5,by rw [List.length_append,List.length_append]; omega,o4⟩
   rw [← hcat]
   show _=bs++(vput (x.1-to)++vput (x.2-x.1)++spB x.2 (e.2.1.drop (j+1)))
   simp only [List.append_assoc]
 · rintro ⟨z1,z2,z3⟩ s' ⟨to,bs,first,e2,e3,hG,hE,hcat,hS,hlen2,hto⟩ nx
   simp only at e2 e3 hG
   subst e2 e3
   have hgs:HP.get s'.h q=some (.row [sl enE mm R]):=by rw [(E1.trans hE).2 q hq]; exact hg
   have lt:¬ (e.2.1.length:Int)<(e.2.1.length:Int):=by omega
   simp only [f110_l1,oO,bindS,many1,jnE,boolS,gdB,fst',snd',nilq,fld93_0,ld91 hgs,ixe,flf171_1,ldE1,hlen,bop_lss,lt,decide_false,condF]
   rw [List.drop_length] at hcat
   have hcat:bs=bs0++spB 0 e.2.1:=by rw [← hcat]; show bs=bs++[]; rw [List.append_nil]
   rw [← hcat] at hk
   exact hk _ _ _ _ hG hE hlen2
theorem c110 {n q:Nat} {s:SH} {R:List EL} (h:RefAt s q R) (hq:q<s.n) (hok:EnOk 0 (dat R)) (hlen:R.length≤1000) (hl:∀ e∈R,e.2.1.length≤1000) :
 ∃ z,z≤2∧callD prog AT (n+2) (.fn 110) [pt q 0] s=some [(sl by' z (allB (dat R)),s)]:=by
 suffices hh:One (bodyD prog (AT.row 110) (callD prog AT (n+1)) AT.N 110 Try.f110 [pt q 0] s) fun v s'=>GB s s' v (allB (dat R)) by
  obtain ⟨v,s',e,lo,h1,h2,h3⟩:=hh
  obtain ⟨z,hz,hz2,hz3⟩:=grow_cut h2 h1 (by_str s.n 5)
  refine ⟨z,by omega,?_⟩
  rw [← hz]
  have hnt:∀ a,v≠.tuple a:=by rcases h2 with ⟨_,rfl | rfl⟩ | ⟨id,_,_,rfl,_⟩ <;> intro a h <;> cases h
  exact cut_call (fn:=Try.f110) rfl rfl (by kernel_rfl) hnt (by rw [hz]; exact bel_sl (by omega) (by_bel s.n)) ⟨v,s',e,rfl,h3⟩
 have hbd:bodyD prog (AT.row 110) (callD prog AT (n+1)) AT.N 110 Try.f110 [pt q 0] s=f110 (dOps prog) (callD prog AT (n+1)) (2^64) (pt q 0) s:=f110_r _ _ _ _
 rw [hbd]
 obtain ⟨mm,hg⟩:=h
 have w1:IntKind.u64.wrap (R.length:Int)=(R.length:Int):=wrap_u64 (by omega) (by omega)
 have G0:GB s s (fzV 2 #[]) []:=⟨s.n,Nat.le_refl _,.inl ⟨rfl,.inl rfl⟩,.refl s⟩
 obtain ⟨v1,s1,e72,G1,E1⟩:=put157 (n:=n) (x:=R.length) G0 (by omega) (by show 0≤_; omega)
 simp only [f110,oO,bindS,many1,jnE,boolS,gdB,fst',snd',nilq,fld93_0,ld91 hg,len91,conv_int u3 u70,w1,e72]
 have hall:allB (dat R)=vput R.length++enB 0 (dat R):=by unfold allB dat; rw [List.length_map]
 rw [hall]
 refine list_one R (fun i (z:Value×Value×Value×Value×Value) (s':SH)=>∃ (last:Nat) (bs:List UInt8),z.2.1=U (last:Int)∧z.2.2.1=I (i:Int)∧GB s s' z.1 bs∧bs++enB last (dat (R.drop i))=vput R.length++enB 0 (dat R)∧bs.length≤10+30000*i∧EnOk last (dat (R.drop i))) ?_ ?_ ⟨0,_,rfl,rfl,by rw [List.nil_append] at G1; exact G1,by rw [List.drop_zero],by have:=vput_len10 (x:=R.length) (by omega); omega,by rw [List.drop_zero]; exact hok⟩ (by omega)
 · rintro i hi ⟨z1,z2,z3,z4,z5⟩ s' ⟨last,bs,e2,e5,hG,hcat,hlen2,hen⟩ nx hnx
   simp only at e2 e5 hG
   subst e2 e5
   have hd:R.drop i=R[i]::R.drop (i+1):=List.drop_eq_getElem_cons hi
   have lt:(i:Int)<(R.length:Int):=by omega
   have ix:=ixE (mm:=mm) hi
   have hmem:=hl _ (List.getElem_mem hi)
   rw [hd] at hcat hen
   have hRi:R[i]=R[i]:=rfl
   generalize hei:R[i]=e at *
   obtain ⟨h1,h2,h3,h3',h4,h5⟩:last<e.1∧e.1<2^64∧e.2.1≠[]∧e.2.1.length<2^64∧SpOk true 0 e.2.1∧EnOk e.1 (dat (R.drop (i+1))):=hen
   have hcat:bs++(vput (e.1-last)++vput e.2.1.length++spB 0 e.2.1++enB e.1 (dat (R.drop (i+1))))=vput R.length++enB 0 (dat R):=hcat
   have w2:IntKind.u64.wrap ((e.1:Int)-(last:Int))=((e.1-last:Nat):Int):=by rw [wrap_u64 (by omega) (by omega)]; omega
   have w3:IntKind.u64.wrap (e.2.1.length:Int)=(e.2.1.length:Int):=wrap_u64 (by omega) (by omega)
   have w5:IntKind.i64.wrap ((i:Int)+1)=((i+1:Nat):Int):=by rw [wrap_i64 (by omega) (by omega)]; rfl
   have E0:Ext s s':=hG.choose_spec.2.2
   obtain ⟨v2,s2,e72a,G2,E2⟩:=put157 (n:=n) (x:=e.1-last) hG (by omega) (by omega)
   have hl1:=vput_len10 (x:=e.1-last) (by omega)
   have hl2:=vput_len10 (x:=e.2.1.length) (by omega)
   obtain ⟨v3,s3,e72b,G3,E3⟩:=put157 (n:=n) (x:=e.2.1.length) G2 (by omega) (by rw [List.length_append]; omega)
   have g0:HP.get s'.h q=some (.row [sl enE mm R]):=by rw [E0.2 q hq]; exact hg
   have g2:HP.get s2.h q=some (.row [sl enE mm R]):=by rw [(E0.trans E2).2 q hq]; exact hg
   have g3:HP.get s3.h q=some (.row [sl enE mm R]):=by rw [((E0.trans E2).trans E3).2 q hq]; exact hg
   have hlr:∀ s:SH,lenOfD prog s 80 (sl rg e.2.2 (e.2.1.map toRg))=some (I (e.2.1.length:Int)):=fun s=>by rw [len_sl u80,List.length_map]
   have e72a:=oneS e72a
   have e72b:=oneS e72b
   simp only [f110_l0,oO,bindS,many1,jnE,boolS,gdB,fst',snd',nilq,fld93_0,ld91 g0,ld91 g2,ld91 g3,len91,bop_lss,lt,decide_true,condT,ix,flf171_0,flf171_1,ldE0,ldE1,b_sub,w2,e72a,hlr,conv_int u3 u70,w3,e72b,Option.map_some,eqO_s,Bool.and_true]
   refine f110in hg hq hi hei G3 h4 hmem (by rw [List.length_append,List.length_append]; omega) fun v4 s4 a b G4 E4 hl4=>?_
   simp only [beq_yes,condT,bop_add,oi,bindS,w5]
   refine hnx (_,_,_,_,_) _ ⟨e.1,_,rfl,rfl,G4,?_,?_,h5⟩
   · rw [← hcat]
     simp only [List.append_assoc]
   · rw [List.length_append,List.length_append] at hl4
     rw [List.length_append,List.length_append,List.length_append] at *
     omega
 · rintro ⟨z1,z2,z3,z4,z5⟩ s' ⟨last,bs,e2,e5,hG,hcat,hlen2,hen⟩ nx
   simp only at e2 e5 hG
   subst e2 e5
   have E0:Ext s s':=hG.choose_spec.2.2
   have g0:HP.get s'.h q=some (.row [sl enE mm R]):=by rw [E0.2 q hq]; exact hg
   have lt:¬ (R.length:Int)<(R.length:Int):=by omega
   simp only [f110_l0,oO,bindS,many1,jnE,boolS,gdB,fst',snd',nilq,fld93_0,ld91 g0,len91,bop_lss,lt,decide_false,condF,beq_yes,condT]
   rw [List.drop_length] at hcat
   have hcat:bs=vput R.length++enB 0 (dat R):=by rw [← hcat]; show bs=bs++[]; rw [List.append_nil]
   rw [← hcat]
   exact One.ret hG
end Go.Proofs.Ytmhmbmogodofeaa.S
namespace Go.Proofs.Ytmhmbmogodofeaa.S
open Go.FS Go.RowKit
open Go.Proofs.Try (prog)
attribute [local congr] bind_cg cond_cg gd_cg
open Go.FS.Q
abbrev Sa:=Int×Int
def sm (a:Sa):List Value:=[.int .i64 a.1,.int .u64 a.2]
theorem sm_len (a:Sa):(sm a).length=2:=rfl
theorem sm_strip (n:Nat) (a:Sa):(sm a).map (stripN 6 n)=sm a:=rfl
theorem sm_bel (n:Nat) (a:Sa):∀ v∈sm a,Bel n v:=fun v hv=>by
 simp only [sm,List.mem_cons,List.not_mem_nil,or_false] at hv
 rcases hv with rfl | rfl <;> exact .int _ _
theorem sm_same (a:Sa):bopD prog .neq 140 (.agg (sm a).toArray) (.agg (sm a).toArray)=some (.bool false):=by
 refine (bop_agg (P:=prog) (d:=4) (t:=140) (a:=(sm a).toArray) (b:=(sm a).toArray) (r:=true) (by decide) (by kernel_rfl) rfl rfl ?_).2
 have:eqS prog 4 140 (.agg #[.int .i64 a.1,.int .u64 a.2]) (.agg #[.int .i64 a.1,.int .u64 a.2])=cond (a.1 == a.1) (cond (a.2 == a.2) (some true) (some false)) (some false):=by kernel_rfl
 refine Eq.trans this ?_
 rw [beq_self_eq_true,beq_self_eq_true]; rfl
theorem ixs {m i:Nat} {l:List Sa} (hi:i<l.length):indexAddrD prog 89 (sl sm m l) (I (i:Int))=some (fpV (sm l[i]).toArray 0):=ixs89 sm_len hi
theorem ldsm (s:SH) (a:Sa):loadD prog s 140 (fpV (sm a).toArray 0)=some (.agg (sm a).toArray):=by rw [load_fp,part_agg a140 z140 (l:=sm a) rfl rfl]
theorem ldsT (s:SH) (a:Sa):loadD prog s 3 (fpV (sm a).toArray 0)=some (I a.1):=by rw [load_fp,part_one a3]; rfl
theorem len89 (s:SH) (m:Nat) (l:List Sa):lenOfD prog s 89 (sl sm m l)=some (I (l.length:Int)):=len_sl u89
theorem c58 {n m m':Nat} {s:SH} (l:List Sa) (hl:l.length≤2^30):callD prog AT (n+1) (.fn 58) [sl sm m l,sl sm m' l] s=some [(.bool true,s)]:=by
 refine cut_plain (fn:=Try.f58) rfl rfl (by kernel_rfl) (fun _ h=>by cases h) (fun _=>⟨rfl,.bool _⟩) ?_
 have hbd:bodyD prog (AT.row 58) (callD prog AT n) AT.N 58 Try.f58 [sl sm m l,sl sm m' l] s=f58 (dOps prog) (callD prog AT n) (2^64) (sl sm m l) (sl sm m' l) s:=f58_r _ _ _ _ _
 rw [hbd]
 simp only [f58,oO,bindS,many1,jnE,boolS,gdB,fst',snd',len89,b_neq,decide_true,Bool.not_true,condF]
 refine list_one l (fun i (x:Value×Value) (s':SH)=>x.2=I (i:Int)∧s'=s) ?_ ?_ ⟨rfl,rfl⟩ (by omega)
 · rintro i hi ⟨x1,x2⟩ s' ⟨h2,rfl⟩ nx hnx
   simp only at h2
   subst h2
   have lt:(i:Int)<(l.length:Int):=by omega
   have w:IntKind.i64.wrap ((i:Int)+1)=((i+1:Nat):Int):=by rw [wrap_i64 (by omega) (by omega)]; rfl
   simp only [f58_l0,oO,bindS,many1,jnE,boolS,gdB,fst',snd',len89,bop_lss,lt,decide_true,condT,ixs hi,ldsm,sm_same,condF,bop_add,w]
   exact hnx (_,_) _ ⟨rfl,rfl⟩
 · rintro ⟨x1,x2⟩ s' ⟨h2,rfl⟩ nx
   simp only at h2
   subst h2
   have lt:¬ (l.length:Int)<(l.length:Int):=by omega
   simp only [f58_l0,oO,bindS,many1,jnE,boolS,gdB,fst',snd',len89,bop_lss,lt,decide_false,condF,beq_yes,condT]
   exact One.ret ⟨rfl,.refl s'⟩
theorem gapp89 {lo:Nat} {s:SH} {v:Value} {m2:Nat} {xs ys:List Sa} (h:Grow lo 2 sm s v xs) (hlo:lo≤s.n) (hb:(xs.length+ys.length)*16≤140737488355328) :
 ∃ v' s',appD prog false s 89 89 v (sl sm m2 ys)=some (v',s')∧Grow lo 2 sm s' v' (xs++ys)∧Sm lo s s'∧(∀ j,j<s.n→HP.get s.h j≠some (.tok xs.length 2)→HP.get s'.h j=HP.get s.h j) :=
 h.app (i:=Try.t140) hlo u89 u89 (by kernel_rfl) zr140 rfl (by kernel_rfl) (by kernel_rfl) (by decide) sm_len hb (by omega)
theorem bs89_0 (s:SH):buildSliceD prog false s 89 0 []=some (sl sm 1 [],s):=by kernel_rfl
theorem bs89 (s:SH) (a:Sa):buildSliceD prog false s 89 1 [(0,.agg (sm a).toArray)]=some (sl sm 1 [a],s):=by kernel_rfl
theorem smtup {lo:Nat} {s:SH} {v:Value} {xs:List Sa} (h:Grow lo 2 sm s v xs):∀ a,v≠.tuple a:=by
 rcases h with ⟨_,rfl | rfl⟩ | ⟨id,_,_,rfl,_⟩ <;> intro a h <;> cases h
def leftL (L:List Rg) (l:List Sa):List Sa:=l.filter fun a=>!cov L a.1
theorem left_drop (L:List Rg) (l:List Sa) (i:Nat) (hi:i<l.length):leftL L (l.drop i)=if cov L l[i].1=true then leftL L (l.drop (i+1)) else l[i]::leftL L (l.drop (i+1)):=by
 rw [List.drop_eq_getElem_cons hi]
 unfold leftL
 rw [List.filter_cons]
 cases cov L l[i].1 <;> rfl
theorem cut_sm {f:FuncId} {fn:Func} {k:Nat} {args:List Value} {s:SH} {xs:List Sa} (hI:AT.i f=none) (hc:AT.cut f=some [none]) (hf:(prog).funcs[f]?=some fn) (h:One (bodyD prog (AT.row f) (callD prog AT k) AT.N f fn args s) fun v s'=>Ext s s'∧Grow s.n 2 sm s' v xs):∃ z,z≤2∧callD prog AT (k+1) (.fn f) args s=some [(sl sm z xs,s)]:=by
 obtain ⟨v,s',e,he,hg⟩:=h
 obtain ⟨z,hz,hz2,hz3⟩:=grow_cut hg (n:=s.n) (Nat.le_refl _) (sm_strip s.n)
 refine ⟨z,by omega,?_⟩
 rw [← hz]
 exact cut_call hI hc hf (smtup hg) (by rw [hz]; exact bel_sl (by omega) (sm_bel s.n)) ⟨v,s',e,rfl,he⟩
theorem c60 {n q k m:Nat} {s:SH} {R:List EL} (h:RefAt s q R) (hq:q<s.n) (hlen:R.length≤2^30) (hl:∀ e∈R,e.2.1.length≤2^30) (hlk:(lkN R k).length≤2^30) (l:List Sa) (hll:l.length≤1000) :
 ∃ z,z≤2∧callD prog AT (n+3) (.fn 60) [pt q 0,U (k:Int),sl sm m l] s=some [(sl sm z (leftL ((lkN R k).map toRg) l),s)]:=by
 refine cut_sm (fn:=Try.f60) rfl rfl (by kernel_rfl) ?_
 have hbd:bodyD prog (AT.row 60) (callD prog AT (n+2)) AT.N 60 Try.f60 [pt q 0,U (k:Int),sl sm m l] s=f60 (dOps prog) (callD prog AT (n+2)) (2^64) (pt q 0) (U (k:Int)) (sl sm m l) s:=f60_r _ _ _ _ _ _
 rw [hbd]
 simp only [f60,oO,bindS,many1,jnE,boolS,gdB,fst',snd',bs89_0]
 refine list_one l (fun i (x:Value×Value) (s':SH)=>∃ out,x.2=I (i:Int)∧Grow s.n 2 sm s' x.1 out∧Sm s.n s s'∧out++leftL ((lkN R k).map toRg) (l.drop i)=leftL ((lkN R k).map toRg) l∧out.length≤i) ?_ ?_ ⟨[],rfl,.inl ⟨rfl,.inr rfl⟩,.refl _ _,by rw [List.drop_zero]; rfl,Nat.le_refl _⟩ (by omega)
 · rintro i hi ⟨x1,x2⟩ s' ⟨out,h2,hG,hS,hcat,hol⟩ nx hnx
   simp only at h2 hG
   subst h2
   have hR':RefAt s' q R:=h.but (hS.2 q hq)
   have lt:(i:Int)<(l.length:Int):=by omega
   have w:IntKind.i64.wrap ((i:Int)+1)=((i+1:Nat):Int):=by rw [wrap_i64 (by omega) (by omega)]; rfl
   rw [left_drop _ _ _ hi] at hcat
   have ix:=ixs (m:=m) hi
   generalize l[i]=a at *
   have e56:=c56 (n:=n) (k:=k) (t:=a.1) hR' hlen hl hlk
   cases hc:cov ((lkN R k).map toRg) a.1 with
   | true =>
    rw [hc] at e56 hcat
    simp only [if_true] at hcat
    simp only [f60_l0,oO,bindS,many1,jnE,boolS,gdB,fst',snd',len89,bop_lss,lt,decide_true,condT,ix,flf140_0,ldsT,e56,uop_not,Bool.not_true,condF,bop_add,w]
    exact hnx (_,_) _ ⟨out,rfl,hG,hS,hcat,by omega⟩
   | false =>
    rw [hc] at e56 hcat
    rw [if_neg (by simp)] at hcat
    obtain ⟨v3,s3,e3,k1,k2,k3⟩:=gapp89 (m2:=1) (ys:=[a]) hG hS.1 (by rw [List.length_singleton]; omega)
    simp only [f60_l0,oO,bindS,many1,jnE,boolS,gdB,fst',snd',len89,bop_lss,lt,decide_true,condT,ix,flf140_0,ldsT,e56,uop_not,Bool.not_false,ldsm,bs89,e3,bop_add,w]
    exact hnx (_,_) _ ⟨out++[a],rfl,k1,hS.trans k2,by rw [← hcat]; simp,by rw [List.length_append,List.length_singleton]; omega⟩
 · rintro ⟨x1,x2⟩ s' ⟨out,h2,hG,hS,hcat,hol⟩ nx
   simp only at h2 hG
   subst h2
   have lt:¬ (l.length:Int)<(l.length:Int):=by omega
   rw [List.drop_length] at hcat
   have hcat:out=leftL ((lkN R k).map toRg) l:=by rw [← hcat]; simp [leftL]
   simp only [f60_l0,oO,bindS,many1,jnE,boolS,gdB,fst',snd',len89,bop_lss,lt,decide_false,condF,beq_yes,condT]
   rw [← hcat]
   exact One.ret ⟨hS,hG⟩
theorem c59 {n p mp c k m:Nat} {s:SH} {es:List En} (ht:TombAt s p mp) (hm:HP.get s.h mp=some (.map (es.map ent) c)) (hp:p<s.n) (hmn:mp<s.n) (hlen:(lk es k).length<2^62) (l:List Sa) (hll:l.length≤1000) :
 ∃ z,z≤2∧callD prog AT (n+4) (.fn 59) [pt p 0,U (k:Int),sl sm m l] s=some [(sl sm z (leftL (lk es k) l),s)]:=by
 refine cut_sm (fn:=Try.f59) rfl rfl (by kernel_rfl) ?_
 have hbd:bodyD prog (AT.row 59) (callD prog AT (n+3)) AT.N 59 Try.f59 [pt p 0,U (k:Int),sl sm m l] s=f59 (dOps prog) (callD prog AT (n+3)) (2^64) (pt p 0) (U (k:Int)) (sl sm m l) s:=f59_r _ _ _ _ _ _
 rw [hbd]
 simp only [f59,oO,bindS,many1,jnE,boolS,gdB,fst',snd',len89]
 refine list_one l (fun i (x:Value×Value) (s':SH)=>∃ out,x.2=I (i:Int)∧Grow s.n 2 sm s' x.1 out∧Sm s.n s s'∧out++leftL (lk es k) (l.drop i)=leftL (lk es k) l∧out.length≤i) ?_ ?_ ⟨[],rfl,.inl ⟨rfl,.inl rfl⟩,.refl _ _,by rw [List.drop_zero]; rfl,Nat.le_refl _⟩ (by omega)
 · rintro i hi ⟨x1,x2⟩ s' ⟨out,h2,hG,hS,hcat,hol⟩ nx hnx
   simp only at h2 hG
   subst h2
   have lt:(i:Int)<(l.length:Int):=by omega
   have w:IntKind.i64.wrap ((i:Int)+1)=((i+1:Nat):Int):=by rw [wrap_i64 (by omega) (by omega)]; rfl
   rw [left_drop _ _ _ hi] at hcat
   have ix:=ixs (m:=m) hi
   generalize l[i]=a at *
   have al:allocD prog s' 140=some (pt s'.n 0,newD s' (.row (sm (0,0)))):=alloc_at zr140
   have st:storeD prog (newD s' (.row (sm (0,0)))) 140 (pt s'.n 0) (.agg (sm a).toArray)=some (newD s' (.row (sm a))):=st_n0 s' z140 rfl rfl rfl
   have gx:HP.get (newD s' (.row (sm a))).h s'.n=some (.row (sm a)):=get_n0 s' _
   have l0:loadD prog (newD s' (.row (sm a))) 3 (pt s'.n 0)=some (I a.1):=ld3at gx rfl
   have l1:loadD prog (newD s' (.row (sm a))) 140 (pt s'.n 0)=some (.agg (sm a).toArray):=by rw [load_row gx,part_agg a140 z140 (l:=sm a) rfl rfl]
   have hn:=hS.1
   have hS1:Sm s.n s (newD s' (.row (sm a))):=hS.new hn _
   have ht':TombAt (newD s' (.row (sm a))) p mp:=by unfold TombAt; rw [hS1.2 p hp]; exact ht
   have hm':HP.get (newD s' (.row (sm a))).h mp=some (.map (es.map ent) c):=by rw [hS1.2 mp hmn]; exact hm
   have e48:=c48 (n:=n) (k:=(k:Int)) (t:=a.1) ht' hm' (by rw [newD_n]; omega) (by rw [newD_n]; omega) hlen
   cases hc:cov (lk es k) a.1 with
   | true =>
    rw [hc] at e48 hcat
    simp only [if_true] at hcat
    simp only [f59_l0,oO,bindS,many1,jnE,boolS,gdB,fst',snd',bop_lss,lt,decide_true,condT,ix,ldsm,al,st,fld140_0,l0,e48,uop_not,Bool.not_true,condF,bop_add,w]
    exact hnx (_,_) _ ⟨out,rfl,hG.new _,hS1,hcat,by omega⟩
   | false =>
    rw [hc] at e48 hcat
    rw [if_neg (by simp)] at hcat
    obtain ⟨v3,s3,e3,k1,k2,k3⟩:=gapp89 (m2:=1) (ys:=[a]) (hG.new (.row (sm a))) hS1.1 (by rw [List.length_singleton]; omega)
    simp only [f59_l0,oO,bindS,many1,jnE,boolS,gdB,fst',snd',bop_lss,lt,decide_true,condT,ix,ldsm,al,st,fld140_0,l0,e48,uop_not,Bool.not_false,l1,bs89,e3,bop_add,w]
    exact hnx (_,_) _ ⟨out++[a],rfl,k1,hS1.trans k2,by rw [← hcat]; simp,by rw [List.length_append,List.length_singleton]; omega⟩
 · rintro ⟨x1,x2⟩ s' ⟨out,h2,hG,hS,hcat,hol⟩ nx
   simp only at h2 hG
   subst h2
   have lt:¬ (l.length:Int)<(l.length:Int):=by omega
   rw [List.drop_length] at hcat
   have hcat:out=leftL (lk es k) l:=by rw [← hcat]; simp [leftL]
   simp only [f59_l0,oO,bindS,many1,jnE,boolS,gdB,fst',snd',bop_lss,lt,decide_false,condF,beq_yes,condT]
   rw [← hcat]
   exact One.ret ⟨hS,hG⟩
theorem erase_map {α β:Type} (f:α→β):∀ (l:List α) (i:Nat),(l.map f).eraseIdx i=(l.eraseIdx i).map f
 | [],_=>rfl
 | a::l,0=>rfl
 | a::l,i+1=>by
  show f a::(l.map f).eraseIdx i=f a::(l.eraseIdx i).map f
  rw [erase_map f l i]
theorem erase_del:∀ (E:List EL) (k j:Nat) (e:EL),(E.map (·.1)).Nodup→E[j]?=some e→e.1=k→E.eraseIdx j=delL E k
 | [],k,j,e,_,h,_=>by cases h
 | a::E,k,0,e,hn,h,hk=>by
  injection h with h
  subst h
  rw [List.map_cons,List.nodup_cons] at hn
  unfold delL
  rw [List.filter_cons]
  simp only [hk,decide_true,Bool.not_true]
  show E=E.filter _
  symm
  rw [List.filter_eq_self]
  intro x hx
  have:x.1≠k:=fun hh=>hn.1 (List.mem_map.2 ⟨x,hx,by rw [hh,hk]⟩)
  simp [this]
 | a::E,k,j+1,e,hn,h,hk=>by
  rw [List.map_cons,List.nodup_cons] at hn
  have h:E[j]?=some e:=h
  have hak:a.1≠k:=fun hh=>hn.1 (List.mem_map.2 ⟨e,List.mem_of_getElem? h,by rw [hk,hh]⟩)
  unfold delL
  rw [List.filter_cons]
  simp only [hak,decide_false,Bool.not_false,if_true]
  show a::E.eraseIdx j=a::delL E k
  rw [erase_del E k j e hn.2 h hk]
theorem del_none {E:List EL} {k:Nat} (h:k∉E.map (·.1)):delL E k=E:=by
 unfold delL
 rw [List.filter_eq_self]
 intro x hx
 have:x.1≠k:=fun hh=>h (List.mem_map.2 ⟨x,hx,hh⟩)
 simp [this]
theorem c52 {n p m c k:Nat} {s:SH} {E:List EL} (ht:TombAt s p m) (hm:HP.get s.h m=some (.map ((E.map toEn).map ent) c)) (hnd:(E.map (·.1)).Nodup) :
 callD prog AT (n+2) (.fn 52) [pt p 0,U (k:Int)] s=some [(.tuple #[],putD s m (.map (((delL E k).map toEn).map ent) c))]:=by
 rw [call_fn (fn:=Try.f52) rfl rfl (by kernel_rfl)]
 have hbd:bodyD prog (AT.row 52) (callD prog AT (n+1)) AT.N 52 Try.f52 [pt p 0,U (k:Int)] s=f52 (dOps prog) (callD prog AT (n+1)) (2^64) (pt p 0) (U (k:Int)) s:=f52_r _ _ _ _ _
 rw [hbd]
 have e101:=c101 (n:=n) ht
 have hd:deleteD prog s 156 (.map (some m)) (U (k:Int))=some (putD s m (.map (((delL E k).map toEn).map ent) c)):=by
  unfold deleteD
  rw [u156]
  simp only [keyFit70,condT,map_of hm,bindS]
  rcases find_lk (E.map toEn) (k:Int) 0 with ⟨j,e',h1,h2,h3,h4⟩ | ⟨h1,h2,h3⟩
  · rw [h1]
    simp only [Option.map_some,Nat.zero_add]
    rw [List.getElem?_map] at h2
    cases hj:E[j]? with
    | none=>rw [hj] at h2; cases h2
    | some e =>
     rw [hj] at h2
     injection h2 with h2
     subst h2
     have hek:e.1=k:=by
      have:((e.1:Nat):Int)=(k:Int):=h3
      omega
     rw [← erase_del E k j e hnd hj hek,erase_map,erase_map]
  · rw [h1]
    simp only [Option.map_some]
    have hk:k∉E.map (·.1):=by
     intro hh
     obtain ⟨e,he,hek⟩:=List.mem_map.1 hh
     have hne:∀ (l:List En) (i:Nat),(∃ e∈l,e.1=(k:Int))→findD (.int .u64 (k:Int)) (l.map ent) i≠some none:=by
      intro l
      induction l with
      | nil=>rintro i ⟨e,he,_⟩; cases he
      | cons a l ih =>
       rintro i ⟨e,he,hek⟩
       show (keyEq (.int .u64 (k:Int)) (.int .u64 a.1)).bind _≠_
       rw [show keyEq (.int .u64 (k:Int)) (.int .u64 a.1)=some (decide ((k:Int)=a.1)) from rfl,bindS]
       by_cases ha:(k:Int)=a.1
       · rw [decide_eq_true ha,condT]; simp
       · rw [decide_eq_false ha,condF]
         rcases List.mem_cons.1 he with rfl | he
         · exact absurd hek.symm ha
         · exact ih (i+1) ⟨e,he,hek⟩
     exact hne (E.map toEn) 0 ⟨toEn e,List.mem_map.2 ⟨e,he,rfl⟩,by show ((e.1:Nat):Int)=_; rw [hek]⟩ h1
    rw [del_none hk]
 simp only [f52,oO,bindS,many1,jnE,boolS,gdB,fst',snd',e101,condT,nilq,fld158_0,ldTm ht,o_delete,hd]
end Go.Proofs.Ytmhmbmogodofeaa.S
namespace Go.Proofs.Ytmhmbmogodofeaa.S
open Go.FS Go.RowKit
open Go.Proofs.Try (prog)
attribute [local congr] bind_cg cond_cg gd_cg
open Go.FS.Q
theorem nil160 {l:List Rg} (h:l≠[]):bopD prog .eql 160 (sl rg 0 l) (fzV 2 #[])=some (.bool false):=by
 show ((binD prog .eql 160 (sl rg 0 l) (fzV 2 #[])).or (nilD prog .eql 160 (sl rg 0 l) (fzV 2 #[])))=_
 have e1:binD prog .eql 160 (sl rg 0 l) (fzV 2 #[])=none:=rfl
 have e2:nilD prog .eql 160 (sl rg 0 l) (fzV 2 #[])=some (.bool false):=by
  have hs:Nat.blt 0 ((l.map rg).map fun e=>Value.agg e.toArray).toArray.size=true:=by
   rw [blt_dec,decide_eq_true]
   simp only [List.size_toArray,List.length_map]
   exact List.length_pos_iff.2 h
  simp only [nilD,u160]
  show (bif (Nat.blt 0 ((l.map rg).map fun e=>Value.agg e.toArray).toArray.size&&isFz ((l.map rg).map fun e=>Value.agg e.toArray).toArray&&Nat.beq #[].size 0) then some (Value.bool false) else _)=_
  rw [hs,isFz_fz]; rfl
 rw [e1,e2]; rfl
theorem bs160_0 (s:SH):buildSliceD prog false s 160 0 []=some (sl rg 1 [],s):=by kernel_rfl
theorem c108 {n:Nat} {s:SH} {l:List Rg} (h:l≠[]) (hl:l.length≤2^30):callD prog AT (n+1) (.fn 108) [sl rg 0 l] s=some [(sl rg 0 l,s)]:=by
 suffices hh:One (bodyD prog (AT.row 108) (callD prog AT n) AT.N 108 Try.f108 [sl rg 0 l] s) fun v s'=>Ext s s'∧Grow s.n 2 rg s' v l by
  obtain ⟨v,s',e,he,hg⟩:=hh
  obtain ⟨q,hq,hq2,hq3⟩:=grow_cut hg (n:=s.n) (Nat.le_refl _) (rg_strip s.n)
  have:=hq3 h
  subst this
  have:=cut_call (P:=prog) (A:=AT) (n:=n) (f:=108) (fn:=Try.f108) (args:=[sl rg 0 l]) (s:=s) (v:=v) rfl rfl (by kernel_rfl) (Grow.ntup hg) (by rw [hq]; exact bel_sl (by omega) (rg_bel s.n)) ⟨v,s',e,rfl,he⟩
  rw [hq] at this
  exact this
 have hbd:bodyD prog (AT.row 108) (callD prog AT n) AT.N 108 Try.f108 [sl rg 0 l] s=f108 (dOps prog) (callD prog AT n) (2^64) (sl rg 0 l) s:=f108_r _ _ _ _
 rw [hbd]
 obtain ⟨v3,s3,e3,k1,k2,k3⟩:=gapp160 (lo:=s.n) (s:=s) (m2:=0) (xs:=[]) (ys:=l) (.inl ⟨rfl,.inr rfl⟩) (Nat.le_refl _) (by simp only [List.length_nil]; omega)
 simp only [f108,oO,bindS,many1,jnE,boolS,gdB,fst',snd',nil160 h,condF,bs160_0,e3]
 exact One.ret ⟨k2,k1⟩
theorem c54 {n p m c B:Nat} {s:SH} {E:List EL} (ht:TombAt s p m) (hm:HP.get s.h m=some (.map ((E.map toEn).map ent) c)) (hp:p<s.n) (hmn:m<s.n) (hG:Good E c B) (hE:E.length≤1000) (hB:B≤1000) :
 Evr (callD prog AT (n+2) (.fn 54) [pt p 0] s) fun v s'=>∃ E',v=pt (s.n+1) 0∧Ext s s'∧s.n+2≤s'.n∧TombAt s' (s.n+1) s.n∧HP.get s'.h s.n=some (.map ((E'.map toEn).map ent) E'.length)∧Good E' E'.length B∧(∀ x,x∈E'.map (fun e=>(e.1,e.2.1))↔x∈E.map (fun e=>(e.1,e.2.1)))∧E'.length≤E.length:=by
 rw [call_fn (fn:=Try.f54) rfl rfl (by kernel_rfl)]
 have hbd:bodyD prog (AT.row 54) (callD prog AT (n+1)) AT.N 54 Try.f54 [pt p 0] s=f54 (dOps prog) (callD prog AT (n+1)) (2^64) (pt p 0) s:=f54_r _ _ _ _
 rw [hbd]
 have e101:=c101 (n:=n) ht
 have e46:=c46 (n:=n) (s:=s)
 have hx1:HP.get (newD (newD s (.map [] 0)) (.row [.map (some s.n)])).h s.n=some (.map [] 0):=by rw [get_old (by simp only [newD_n]; omega)]; exact get_n0 s _
 have hx2:TombAt (newD (newD s (.map [] 0)) (.row [.map (some s.n)])) (s.n+1) s.n:=get_new (by rw [newD_n])
 have hx3:Ext s (newD (newD s (.map [] 0)) (.row [.map (some s.n)])):=((Ext.refl s).new _).new _
 have hx4:(newD (newD s (.map [] 0)) (.row [.map (some s.n)])).n=s.n+2:=by simp only [newD_n]
 simp only [f54,oO,bindS,many1,jnE,boolS,gdB,fst',snd',e101,uop_not,Bool.not_true,condF,e46]
 generalize newD (newD s (.map [] 0)) (.row [.map (some s.n)])=s1 at *
 have ht1:TombAt s1 p m:=by unfold TombAt; rw [hx3.2 p hp]; exact ht
 have hm1:HP.get s1.h m=some (.map ((E.map toEn).map ent) c):=by rw [hx3.2 m hmn]; exact hm
 have hok:=hG.ok
 have hm1':HP.get s1.h m=some (.map ((E.map toEN).map entN) c):=by rw [← ent_EN]; exact hm1
 have hr:rangeD prog s1 156 (.map (some m))=some (pt s1.n 0,newD s1 (.iter (some m) c [] c)):=by
  unfold rangeD
  rw [u156]
  show (mapD s1 m).map _=_
  rw [map_of hm1']; rfl
 simp only [nilq,fld158_0,ldTm ht1,o_range,hr,bindS]
 refine loop_rule (fun d (x:Value×Value) (s':SH)=>∃ (vs:LT) (seen:List Nat),d=(unseen seen (E.map toEN)).length∧HP.get s'.h s1.n=some (.iter (some m) c seen c)∧HP.get s'.h m=some (.map ((E.map toEN).map entN) c)∧(vs.map (·.1)).Nodup∧(∀ e∈E,e.2.2∈seen↔(e.1,e.2.1)∈vs)∧(∀ x∈vs,∃ e∈E,(e.1,e.2.1)=x)∧Ext s s'∧s.n+3≤s'.n∧TombAt s' (s.n+1) s.n∧HP.get s'.h s.n=some (.map (((enL 0 vs).map toEn).map ent) vs.length)) (fun R=>Evr R fun v s'=>∃ E',v=pt (s.n+1) 0∧Ext s s'∧s.n+2≤s'.n∧TombAt s' (s.n+1) s.n∧HP.get s'.h s.n=some (.map ((E'.map toEn).map ent) E'.length)∧Good E' E'.length B∧(∀ x,x∈E'.map (fun e=>(e.1,e.2.1))↔x∈E.map (fun e=>(e.1,e.2.1)))∧E'.length≤E.length) ?_ (2^64) (unseen [] (E.map toEN)).length _ _ ⟨[],[],rfl,get_n0 s1 _,by rw [get_old (by omega)]; exact hm1',List.nodup_nil,fun e _=>by simp,(fun k hk=>by cases hk),hx3.new _,by rw [newD_n]; omega,by unfold TombAt; rw [get_old (by omega)]; exact hx2,by rw [get_old (by omega)]; exact hx1⟩ (by
  have:(unseen [] (E.map toEN)).length≤(E.map toEN).length:=List.length_filter_le _ _
  rw [List.length_map] at this
  omega)
 rintro d ⟨x1,x2⟩ s' ⟨vs,seen,rfl,hit,hmm,hnd,hiff,hsub,hE',hn,hta,hmap⟩ nx hnx
 have hgd:(!seen.isEmpty&&!((E.map toEN).map entN).isEmpty&&((E.map toEN).map entN).all (fun e=>!Nat.blt e.2.2 c))=false:=by
  cases E with
  | nil=>simp
  | cons e es =>
   have:Nat.blt (entN (toEN e)).2.2 c=true:=by
    show Nat.blt e.2.2 c=true
    rw [blt_dec,decide_eq_true (hG.lt e (List.mem_cons_self ..))]
   simp [this]
 have hnext:nextsD s' (pt s1.n 0)=some ((candD ((E.map toEN).map entN) c seen).map (nextIt s' s1.n m c c seen)):=by
  unfold nextsD
  simp only
  rw [hit]
  simp only
  rw [map_of hmm,bindS,hgd,condF]
 rw [cand_n hok.lt] at hnext
 simp only [f54_l0,o_nexts,hnext,bindS]
 have hvl:vs.length≤E.length:=by
  have h1:(vs.map (·.1)).length≤(E.map (·.1)).length:=List.Nodup.length_le_of_subset hnd fun k hk=>by
   obtain ⟨x,hx,rfl⟩:=List.mem_map.1 hk
   obtain ⟨e,he,rfl⟩:=hsub x hx
   exact List.mem_map.2 ⟨e,he,rfl⟩
  rw [List.length_map,List.length_map] at h1
  exact h1
 have hgood:Good (enL 0 vs) (enL 0 vs).length B:=by
  refine ⟨by rw [enL_keys]; exact hnd,enL_nodup 0 vs,fun e he=>by have:=(enL_born 0 vs e he).2; rw [enL_len]; omega,fun e he=>?_,fun e he=>?_⟩
  · obtain ⟨f,hf,hfe⟩:=hsub _ (enL_mem 0 vs e he)
    have:=hG.good f hf
    rw [(Prod.mk.inj hfe).1,(Prod.mk.inj hfe).2] at this
    exact this
  · obtain ⟨f,hf,hfe⟩:=hsub _ (enL_mem 0 vs e he)
    have:=hG.len f hf
    rw [(Prod.mk.inj hfe).2] at this
    exact this
 have hdat:∀ (c:Nat) (L:LT),(enL c L).map (fun e=>(e.1,e.2.1))=L:=by
  intro c L
  induction L generalizing c with
  | nil=>rfl
  | cons a L ih=>show (a.1,a.2)::(enL (c+1) L).map _=_; rw [ih]
 by_cases hu:unseen seen (E.map toEN)=[]
 · rw [if_pos hu]
   simp only [List.map_cons,List.map_nil,nextIt,oO,bindS,many1,jnE,boolS,gdB,fst',snd',xt21,condF,beq_yes,condT]
   refine Evr.ret ⟨enL 0 vs,rfl,hE',by omega,hta,by rw [enL_len]; exact hmap,hgood,fun x=>?_,by rw [enL_len]; exact hvl⟩
   rw [hdat]
   constructor
   · intro hx
     obtain ⟨e,he,rfl⟩:=hsub x hx
     exact List.mem_map.2 ⟨e,he,rfl⟩
   · intro hx
     obtain ⟨e,he,rfl⟩:=List.mem_map.1 hx
     refine (hiff e he).1 ?_
     rcases Classical.em (e.2.2∈seen) with hh | hh
     · exact hh
     · have:toEN e∈unseen seen (E.map toEN):=List.mem_filter.2 ⟨List.mem_map.2 ⟨e,he,rfl⟩,by
        show (!seen.contains e.2.2)=true
        simp [hh]⟩
       rw [hu] at this; cases this
 · rw [if_neg hu,List.map_map]
   refine evr_many (by simpa using hu) fun pp hpp=>?_
   obtain ⟨eN,heN,rfl⟩:=List.mem_map.1 hpp
   have heE:eN∈E.map toEN:=(List.mem_filter.1 heN).1
   obtain ⟨e,hee,rfl⟩:=List.mem_map.1 heE
   have hns:e.2.2∉seen:=by
    have:=(List.mem_filter.1 heN).2
    have this:(!seen.contains e.2.2)=true:=this
    simpa using this
   have hnv:(e.1,e.2.1)∉vs:=fun hh=>hns ((hiff e hee).2 hh)
   have hkn:e.1∉vs.map (·.1):=by
    intro hh
    obtain ⟨x,hx,hxe⟩:=List.mem_map.1 hh
    obtain ⟨f,hf,rfl⟩:=hsub x hx
    have:f=e:=inj_of_nodup hG.keys e hee f hf hxe
    rw [this] at hx
    exact hnv hx
   show Evr ((extractD (.tuple #[.bool true,U (e.1:Int),sl rg 0 (e.2.1.map toRg)]) 0).bind _) _
   have hsn:s1.n≠s.n:=by omega
   have hs1:s1.n=s.n+2:=hx4
   have git:HP.get (putD s' s1.n (.iter (some m) c (seen++[e.2.2]) c)).h s1.n=some (.iter (some m) c (seen++[e.2.2]) c):=get_put_same _
   have gmm:HP.get (putD s' s1.n (.iter (some m) c (seen++[e.2.2]) c)).h m=some (.map ((E.map toEN).map entN) c):=by rw [get_put_other (by omega)]; exact hmm
   have gta:TombAt (putD s' s1.n (.iter (some m) c (seen++[e.2.2]) c)) (s.n+1) s.n:=by unfold TombAt; rw [get_put_other (by omega)]; exact hta
   have gmap:HP.get (putD s' s1.n (.iter (some m) c (seen++[e.2.2]) c)).h s.n=some (.map (((enL 0 vs).map toEn).map ent) vs.length):=by rw [get_put_other (by omega)]; exact hmap
   have gE:Ext s (putD s' s1.n (.iter (some m) c (seen++[e.2.2]) c)):=hE'.put (by omega) _
   have gn:s.n+3≤(putD s' s1.n (.iter (some m) c (seen++[e.2.2]) c)).n:=hn
   have hen:entryD (putD s' s1.n (.iter (some m) c (seen++[e.2.2]) c)) (pt s1.n 0)=some (.tuple #[U (e.1:Int),sl rg 0 (e.2.1.map toRg)]):=by
    obtain ⟨j,b1,b2⟩:=born_n (E.map toEN) (toEN e) 0 (hok.births (toEN e) heE) heE
    have b1:bornAt e.2.2 ((E.map toEN).map entN) 0=some (0+j):=b1
    unfold entryD
    simp only
    rw [git]
    simp only
    rw [List.getLast?_append,List.getLast?_singleton,Option.some_or,bindS,map_of gmm,bindS,beq_yes,condT,b1,bindS,Nat.zero_add,b2]
    rfl
   have hne:=(hG.good e hee).2.2.1
   have e108:=oneS (c108 (n:=n) (s:=putD s' s1.n (.iter (some m) c (seen++[e.2.2]) c)) (l:=e.2.1.map toRg) (by simpa using hne) (by rw [List.length_map]; have:=hG.len e hee; omega))
   have hnew:∀ f∈(enL 0 vs).map toEn,f.1≠((e.1:Nat):Int):=fun f hf hh=>by
    obtain ⟨a,ha,rfl⟩:=List.mem_map.1 hf
    have:a.1=e.1:=by
      have:((a.1:Nat):Int)=(e.1:Int):=hh
      omega
    refine hkn ?_
    rw [← this,← enL_keys 0 vs]
    exact List.mem_map.2 ⟨a,ha,rfl⟩
   have up:=upd_new gmap hnew (sl rg 0 (e.2.1.map toRg))
   simp only [oO,bindS,many1,jnE,boolS,gdB,fst',snd',xt20,condT,o_entry,nextIt,Function.comp,show (entN (toEN e)).2.2=e.2.2 from rfl,hen,ext2,nilq,fld158_0,ldTm gta,e108,up,eqO_s,Bool.and_true]
   refine hnx (unseen (seen++[e.2.2]) (E.map toEN)).length (_,_) _ ?_ ⟨vs++[(e.1,e.2.1)],seen++[e.2.2],rfl,by rw [get_put_other (by omega)]; exact git,by rw [get_put_other (by omega)]; exact gmm,?_,fun f hf=>?_,fun x hx=>?_,gE.put (Nat.le_refl _) _,gn,by unfold TombAt; rw [get_put_other (by omega)]; exact gta,?_⟩
   · have e1:unseen (seen++[e.2.2]) (E.map toEN)=(unseen seen (E.map toEN)).filter fun f=>!(f.2.2 == e.2.2):=by
      unfold unseen
      rw [List.filter_filter]
      congr 1
      funext f
      simp only [List.contains_append,List.contains_cons,List.contains_nil,Bool.or_false,Bool.not_or]
      rw [Bool.and_comm]
     rw [e1]
     refine List.length_filter_lt_length_iff_exists.2 ⟨toEN e,heN,by show ¬ (!(e.2.2 == e.2.2))=true; simp⟩
   · rw [List.map_append,List.nodup_append]
     refine ⟨hnd,by simp,fun a ha b hb=>?_⟩
     simp only [List.map_cons,List.map_nil,List.mem_singleton] at hb
     subst hb
     rintro rfl
     exact hkn ha
   · rw [List.mem_append,List.mem_append,List.mem_singleton,List.mem_singleton,hiff f hf]
     constructor
     · rintro (h1 | h1)
       · exact .inl h1
       · exact .inr (by rw [inj_of_nodup hG.births e hee f hf h1])
     · rintro (h1 | h1)
       · exact .inl h1
       · exact .inr (by rw [inj_of_nodup hG.keys e hee f hf (Prod.mk.inj h1).1])
   · rcases List.mem_append.1 hx with hx | hx
     · exact hsub x hx
     · rw [List.mem_singleton] at hx
       exact ⟨e,hee,hx.symm⟩
   · rw [get_put_same,enL_app,List.map_append,List.map_append,List.length_append,Nat.zero_add]; rfl
end Go.Proofs.Ytmhmbmogodofeaa.S
