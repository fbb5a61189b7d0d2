import Derived.Test.YtmhmbmogodofeaaCV
set_option linter.unusedVariables false
set_option linter.unusedSimpArgs false
set_option maxRecDepth 100000
namespace Go.Proofs.Ytmhmbmogodofeaa.S
open Go.FS Go.RowKit
open Go.Proofs.Try (prog)
attribute [local congr] bind_cg cond_cg gd_cg
open Go.FS.Q
abbrev EL:=Nat×List (Nat×Nat)×Nat
def toRg (x:Nat×Nat):Rg:=((x.1:Int),(x.2:Int))
def toEn (e:EL):En:=((e.1:Int),e.2.1.map toRg,e.2.2)
def toEN (e:EL):EN:=(e.1,sl rg 0 (e.2.1.map toRg),e.2.2)
def lkN:List EL→Nat→List (Nat×Nat)
 | [],_=>[]
 | e::l,k=>if e.1=k then e.2.1 else lkN l k
theorem lk_N (es:List EL) (k:Nat):lk (es.map toEn) (k:Int)=(lkN es k).map toRg:=by
 induction es with
 | nil=>rfl
 | cons e es ih =>
  rw [List.map_cons]
  unfold lk lkN
  by_cases h:e.1=k
  · rw [if_pos h,if_pos (show (toEn e).1=(k:Int) by show ((e.1:Nat):Int)=k; omega)]; rfl
  · rw [if_neg h,if_neg (show ¬ (toEn e).1=(k:Int) by show ¬ ((e.1:Nat):Int)=k; omega)]; exact ih
theorem ent_EN (es:List EL):(es.map toEn).map ent=(es.map toEN).map entN:=by
 rw [List.map_map,List.map_map]; rfl
structure Tm (s:SH) (p m c:Nat) (es:List EL):Prop where
 at_:TombAt s p m
 map:HP.get s.h m=some (.map ((es.map toEn).map ent) c)
 ok:MapOk (es.map toEN) c
 small:es.length≤1000
 len:∀ e∈es,e.2.1.length≤1000
 good:∀ e∈es,0<e.1∧e.1<2^64∧e.2.1≠[]∧SpOk true 0 e.2.1
theorem Tm.mapN {s:SH} {p m c:Nat} {es:List EL} (h:Tm s p m c es):HP.get s.h m=some (.map ((es.map toEN).map entN) c):=by rw [← ent_EN]; exact h.map
theorem Tm.ext {s s':SH} {p m c:Nat} {es:List EL} (h:Tm s p m c es) (hp:p<s.n) (hm:m<s.n) (k:Ext s s'):Tm s' p m c es :=
 ⟨by have:=h.at_; unfold TombAt at this ⊢; rw [k.2 p hp]; exact this,by rw [k.2 m hm]; exact h.map,h.ok,h.small,h.len,h.good⟩
def listOf (es:List EL):List (Nat×List (Nat×Nat)):=(keysOf (es.map toEN)).map fun k=>(k,lkN es k)
theorem keys_len (es:List EL):(keysOf (es.map toEN)).length=es.length:=by
 rw [(keysOf_perm _).length_eq,List.length_map,List.length_map]
theorem lkN_len {es:List EL} (h:∀ e∈es,e.2.1.length≤1000) (k:Nat):(lkN es k).length≤1000:=by
 induction es with
 | nil=>show 0≤_; omega
 | cons e es ih =>
  unfold lkN
  split
  · exact h e (List.mem_cons_self ..)
  · exact ih fun x hx=>h x (List.mem_cons_of_mem _ hx)
theorem lookup_q (es:List En) (k:Int):∃ q,∀ (s:SH) (m c:Nat),HP.get s.h m=some (.map (es.map ent) c)→lookupD prog s 156 (.map (some m)) (.int .u64 k) false=some (sl rg q (lk es k)):=by
 have key:∀ (s:SH) (m c:Nat),HP.get s.h m=some (.map (es.map ent) c)→lookupD prog s 156 (.map (some m)) (.int .u64 k) false=(findD (.int .u64 k) (es.map ent) 0).bind fun r=>(match r with | some (_,v)=>some (v,true) | none=>(zeroV prog 160).map fun v=>(v,false)).map fun (p:Value×Bool)=>cond false (.tuple #[p.1,.bool p.2]) p.1:=fun s m c h=>by
  unfold lookupD
  rw [u156]
  simp only [keyFit70,condT,map_of h,bindS]
  rfl
 rcases find_lk es k 0 with ⟨j,e',h1,h2,h3,h4⟩ | ⟨h1,h2,h3⟩
 · exact ⟨0,fun s m c h=>by rw [key s m c h,h1,bindS]; rfl⟩
 · exact ⟨2,fun s m c h=>by rw [key s m c h,h1,bindS,zv160,h2]; rfl⟩
theorem ldTm {s:SH} {p m:Nat} (h:TombAt s p m):loadD prog s 156 (pt p 0)=some (.map (some m)):=by rw [load_row h,part_one a156]; rfl
theorem ldUN {s:SH} (x:Nat):loadD prog s 70 (fpV (uN x).toArray 0)=some (U (x:Int)):=by rw [load_fp,part_one a70]; rfl
theorem uN_len (x:Nat):(uN x).length=1:=rfl
theorem c109 {n p m c:Nat} {s:SH} {es:List EL} (h:Tm s p m c es) (hp:p<s.n) (hm:m<s.n) (hn:es.length+30≤n) :
 callD prog AT (n+2) (.fn 109) [pt p 0] s=some [(sl uN (if es=[] then 2 else 0) (keysOf (es.map toEN)),newD s (.row [.map (some m)]))]:=by
 obtain ⟨k,rfl⟩:∃ k,n=k+1:=⟨n-1,by omega⟩
 rw [call_fn (fn:=Try.f109) rfl rfl (by kernel_rfl)]
 show bodyD prog false _ _ 109 Try.f109 _ s=_
 rw [f109_r]
 have nil:nilCheckD (pt p 0)=some (pt p 0):=rfl
 have e101:=c101 (n:=k+1) h.at_
 have e156:=c156 atC (n:=k+1) (s:=s) m
 have e155:=c155 atC atA atB atN (n:=k+1) (a1:=s.n) (m:=m) (c:=c) (es:=es.map toEN) (s:=newD s (.row [.map (some m)])) (get_n0 s _) (by rw [get_old (by omega)]; exact h.mapN) (by rw [newD_n]; omega) (by rw [newD_n]; omega) h.ok (by rw [List.length_map]; have:=h.small; omega) (by rw [List.length_map]; omega)
 have hif:(if es.map toEN=[] then 2 else 0)=if es=[] then 2 else 0:=by cases es <;> rfl
 rw [hif] at e155
 simp only [f109,oO,bindS,many1,jnE,boolS,gdB,fst',snd',e101,uop_not,Bool.not_true,condF,nil,fld158_0,ldTm h.at_,e156,e155]
theorem eqO_s (v:Value):eqO HP (some v) v=true:=by simp [eqO,FG]
def GB (s0 s':SH) (v:Value) (bs:List UInt8):Prop:=∃ lo,s0.n≤lo∧Grow lo 1 by' s' v bs∧Ext s0 s'
theorem GB.new {s0 s':SH} {v:Value} {bs:List UInt8} (h:GB s0 s' v bs) (o:DObj):GB s0 (newD s' o) v bs:=by
 obtain ⟨lo,h1,h2,h3⟩:=h
 exact ⟨lo,h1,h2.new o,h3.new o⟩
theorem put72 {n x:Nat} {s0 s':SH} {v:Value} {bs:List UInt8} (h:GB s0 s' v bs) (hx:x<2^64) (hb:bs.length≤2^45) :
 ∃ v2 s2,callD prog AT (n+3) (.fn 72) [v,U (x:Int)] s'=some [(v2,s2)]∧GB s0 s2 v2 (bs++vput x)∧Ext s' s2:=by
 obtain ⟨lo,h1,h2,h3⟩:=h
 obtain ⟨m,rfl⟩:=Grow.form h2
 obtain ⟨v2,s2,e,k1,k2⟩:=c72 (n:=n) (m:=m) (s:=s') bs x hx (by omega)
 have k2:Ext s' s2:=k2
 exact ⟨v2,s2,e,⟨s'.n,h3.1,k1,h3.trans k2⟩,k2⟩
theorem ld3at {s:SH} {id o:Nat} {cs:List Value} {v:Value} (h:HP.get s.h id=some (.row cs)) (hv:cs[o]?=some v):loadD prog s 3 (pt id o)=some v:=by rw [load_row h,part_one a3,hv]
theorem f61in {n N q:Nat} {s0 s1:SH} {v:Value} {bs0:List UInt8} {l:List (Nat×Nat)} {kx:Nat→(Value×Value×Value)→SH→Option (List (Value×SH))} {kr:(Value×Value×Value)→SH→Option (List (Value×SH))} {Q:Value→SH→Prop} (hG:GB s0 s1 v bs0) (hS:SpOk true 0 l) (hl:l.length≤1000) (hb:bs0.length≤2^40)
 (hk:∀ v2 s2 a b,GB s0 s2 v2 (bs0++spB 0 l)→Ext s1 s2→(bs0++spB 0 l).length≤bs0.length+20*l.length→One (kx 2 (v2,a,b) s2) Q) :
 One (iterS (f61_l1 (dOps (H:=HP) prog) (callD prog AT (n+3)) N (sl rg q (l.map toRg)) (I (l.length:Int))) kx kr (2^64) (v,I 0,I 0) s1) Q:=by
 refine list_one l (fun j (z:Value×Value×Value) (s':SH)=>∃ (to:Nat) (bs:List UInt8) (first:Bool),z.2.1=I (to:Int)∧z.2.2=I (j:Int)∧GB s0 s' z.1 bs∧Ext s1 s'∧bs++spB to (l.drop j)=bs0++spB 0 l∧SpOk first to (l.drop j)∧bs.length≤bs0.length+20*j∧to≤MT) ?_ ?_ ⟨0,bs0,true,rfl,rfl,hG,.refl _,by rw [List.drop_zero],by rw [List.drop_zero]; exact hS,by omega,by decide⟩ (by omega)
 · rintro j hj ⟨z1,z2,z3⟩ s' ⟨to,bs,first,e2,e3,hG,hE,hcat,hS,hlen,hto⟩ nx hnx
   simp only at e2 e3 hG
   subst e2 e3
   have hMT:MT=35184372088832:=rfl
   have hd:l.drop j=l[j]::l.drop (j+1):=List.drop_eq_getElem_cons hj
   rw [hd] at hcat hS
   have ix:indexAddrD prog 160 (sl rg q (l.map toRg)) (I (j:Int))=some (fpV (rg (toRg l[j])).toArray 0):=by
    have:=ixs160 (m:=q) (k:=.i64) (xs:=l.map toRg) (enc:=rg) rg_len (i:=j) (by rw [List.length_map]; exact hj)
    rw [List.getElem_map] at this
    exact this
   generalize l[j]=x at *
   obtain ⟨o1,o2,o3,o4,o5⟩:=hS
   have lt:(j:Int)<(l.length:Int):=by omega
   have ld:loadD prog s' 163 (fpV (rg (toRg x)).toArray 0)=some (.agg (rg (toRg x)).toArray):=by rw [load_fp,part_agg a163 z163 (l:=rg (toRg x)) rfl rfl]
   have al:allocD prog s' 163=some (pt s'.n 0,newD s' (.row (rg (0,0)))):=alloc_at zr163
   have st:storeD prog (newD s' (.row (rg (0,0)))) 163 (pt s'.n 0) (.agg (rg (toRg x)).toArray)=some (newD s' (.row (rg (toRg x)))):=st_n0 s' z163 rfl rfl rfl
   have gx:HP.get (newD s' (.row (rg (toRg x)))).h s'.n=some (.row (rg (toRg x))):=get_n0 s' _
   have w1:IntKind.i64.wrap ((x.1:Int)-(to:Int))=((x.1-to:Nat):Int):=by rw [wrap_i64 (by omega) (by omega)]; omega
   have w2:IntKind.u64.wrap ((x.1-to:Nat):Int)=((x.1-to:Nat):Int):=wrap_u64 (by omega) (by omega)
   have w3:IntKind.i64.wrap ((x.2:Int)-(x.1:Int))=((x.2-x.1:Nat):Int):=by rw [wrap_i64 (by omega) (by omega)]; omega
   have w4:IntKind.u64.wrap ((x.2-x.1:Nat):Int)=((x.2-x.1:Nat):Int):=wrap_u64 (by omega) (by omega)
   have w5:IntKind.i64.wrap ((j:Int)+1)=((j+1:Nat):Int):=by rw [wrap_i64 (by omega) (by omega)]; rfl
   have l0:loadD prog (newD s' (.row (rg (toRg x)))) 3 (pt s'.n 0)=some (I (x.1:Int)):=ld3at gx rfl
   have hE1:Ext s' (newD s' (.row (rg (toRg x)))):=(Ext.refl s').new _
   obtain ⟨v2,s2,e72,G2,E2⟩:=put72 (n:=n) (x:=x.1-to) (hG.new (.row (rg (toRg x)))) (by omega) (by omega)
   have gx2:HP.get s2.h s'.n=some (.row (rg (toRg x))):=by rw [E2.2 _ (by rw [newD_n]; omega)]; exact gx
   have l1:loadD prog (newD s' (.row (rg (toRg x)))) 3 (pt s'.n 1)=some (I (x.2:Int)):=ld3at gx rfl
   have l20:loadD prog s2 3 (pt s'.n 0)=some (I (x.1:Int)):=ld3at gx2 rfl
   have l21:loadD prog s2 3 (pt s'.n 1)=some (I (x.2:Int)):=ld3at gx2 rfl
   have hl1:=vput_len10 (x:=x.1-to) (by omega)
   have hl2:=vput_len10 (x:=x.2-x.1) (by omega)
   obtain ⟨v3,s3,e72b,G3,E3⟩:=put72 (n:=n) (x:=x.2-x.1) G2 (by omega) (by rw [List.length_append]; omega)
   have gx3:HP.get s3.h s'.n=some (.row (rg (toRg x))):=by rw [E3.2 _ (by have:=E2.1; rw [newD_n] at this; omega)]; exact gx2
   have l31:loadD prog s3 3 (pt s'.n 1)=some (I (x.2:Int)):=ld3at gx3 rfl
   have e72:=oneS e72
   have e72b:=oneS e72b
   simp only [f61_l1,oO,bindS,many1,jnE,boolS,gdB,fst',snd',bop_lss,lt,decide_true,condT,ix,ld,al,st,fld163_0,fld163_1,l0,l1,l20,l21,l31,b_sub,w1,w3,conv_int u3 u70,w2,w4,e72,e72b,Option.map_some,eqO_s,Bool.and_true,bop_add,w5]
   refine hnx (_,_,_) _ ⟨x.2,_,false,rfl,rfl,G3,(hE.trans hE1).trans (E2.trans E3),?_,o5,by rw [List.length_append,List.length_append]; omega,o4⟩
   rw [← hcat]
   show _=bs++(vput (x.1-to)++vput (x.2-x.1)++spB x.2 (l.drop (j+1)))
   simp only [List.append_assoc]
 · rintro ⟨z1,z2,z3⟩ s' ⟨to,bs,first,e2,e3,hG,hE,hcat,hS,hlen,hto⟩ nx
   simp only at e2 e3 hG
   subst e2 e3
   have lt:¬ (l.length:Int)<(l.length:Int):=by omega
   simp only [f61_l1,oO,bindS,many1,jnE,boolS,gdB,fst',snd',bop_lss,lt,decide_false,condF]
   rw [List.drop_length] at hcat
   have hcat:bs=bs0++spB 0 l:=by rw [← hcat]; show bs=bs++[]; rw [List.append_nil]
   rw [← hcat] at hk
   exact hk _ _ _ _ hG hE hlen
theorem c61 {n p m c:Nat} {s:SH} {es:List EL} (h:Tm s p m c es) (hp:p<s.n) (hm:m<s.n) (hn:es.length+40≤n) :
 ∃ q,q≤2∧callD prog AT (n+1) (.fn 61) [pt p 0] s=some [(sl by' q (allB (listOf es)),s)]:=by
 obtain ⟨k,rfl⟩:∃ k,n=k+3:=⟨n-3,by omega⟩
 suffices hh:One (bodyD prog false (callD prog AT (k+3)) AT.N 61 Try.f61 [pt p 0] s) fun v s'=>GB s s' v (allB (listOf es)) by
  obtain ⟨v,s',e,lo,h1,h2,h3⟩:=hh
  obtain ⟨q,hq,hq2,hq3⟩:=grow_cut h2 h1 (by_str s.n 5)
  refine ⟨q,by omega,?_⟩
  rw [← hq]
  have hnt:∀ a,v≠.tuple a:=by rcases h2 with ⟨_,rfl | rfl⟩ | ⟨id,_,_,rfl,_⟩ <;> intro a h <;> cases h
  exact cut_call (fn:=Try.f61) rfl rfl (by kernel_rfl) hnt (by rw [hq]; exact bel_sl (by omega) (by_bel s.n)) ⟨v,s',e,rfl,h3⟩
 rw [f61_r]
 have nil:nilCheckD (pt p 0)=some (pt p 0):=rfl
 have e101:=c101 (n:=k+2) h.at_
 have hlm:lenOfD prog s 156 (.map (some m))=some (I (es.length:Int)):=by
  unfold lenOfD
  rw [u156]
  show (mapD s m).map _=_
  rw [map_of h.map]
  simp only [Option.map_some,List.length_map]
 have hsm:=h.small
 have w1:IntKind.u64.wrap (es.length:Int)=(es.length:Int):=wrap_u64 (by omega) (by omega)
 have G0:GB s s (fzV 2 #[]) []:=⟨s.n,Nat.le_refl _,.inl ⟨rfl,.inl rfl⟩,.refl s⟩
 obtain ⟨v1,s1,e72,G1,E1⟩:=put72 (n:=k) (x:=es.length) G0 (by omega) (by show 0≤_; omega)
 have T1:=h.ext hp hm E1
 have e109:=c109 (n:=k+1) T1 (by have:=E1.1; omega) (by have:=E1.1; omega) (by omega)
 have hkl:=keys_len es
 have hlen67:lenOfD prog (newD s1 (.row [.map (some m)])) 67 (sl uN (if es=[] then 2 else 0) (keysOf (es.map toEN)))=some (I (es.length:Int)):=by rw [len_sl u67,hkl]
 simp only [f61,oO,bindS,many1,jnE,boolS,gdB,fst',snd',e101,uop_not,Bool.not_true,condF,nil,fld158_0,ldTm h.at_,hlm,conv_int u3 u70,w1,e72,e109,hlen67]
 generalize (if es=[] then 2 else 0)=q0
 have hkeys:∀ k∈keysOf (es.map toEN),∃ e∈es,e.1=k:=fun k hk=>by
  have:=(keysOf_perm (es.map toEN)).mem_iff.1 hk
  rw [List.map_map] at this
  obtain ⟨e,he,rfl⟩:=List.mem_map.1 this
  exact ⟨e,he,rfl⟩
 have hsorted:=keysOf_sorted (es.map toEN)
 have hnd:(keysOf (es.map toEN)).Nodup:=(keysOf_perm _).nodup_iff.2 h.ok.keys
 have hlk:∀ k∈keysOf (es.map toEN),SpOk true 0 (lkN es k):=fun k hk=>by
  obtain ⟨e,he,rfl⟩:=hkeys k hk
  have:lkN es e.1=e.2.1∨∃ f∈es,lkN es e.1=f.2.1:=by
   clear hkeys
   exact .inr (by
    have:∀ es:List EL,e∈es→∃ f∈es,lkN es e.1=f.2.1:=by
     intro es
     induction es with
     | nil=>intro he; cases he
     | cons a es ih =>
      intro he
      unfold lkN
      by_cases ha:a.1=e.1
      · exact ⟨a,List.mem_cons_self ..,by rw [if_pos ha]⟩
      · rw [if_neg ha]
        rcases List.mem_cons.1 he with rfl | he
        · exact absurd rfl ha
        · obtain ⟨f,hf,h⟩:=ih he
          exact ⟨f,List.mem_cons_of_mem _ hf,h⟩
    exact this es he)
  rcases this with h1 | ⟨f,hf,h1⟩
  · rw [h1]; exact (h.good e he).2.2.2
  · rw [h1]; exact (h.good f hf).2.2.2
 unfold listOf
 have hall:allB ((keysOf (es.map toEN)).map fun k=>(k,lkN es k))=vput es.length++enB 0 ((keysOf (es.map toEN)).map fun k=>(k,lkN es k)):=by
  unfold allB; rw [List.length_map,hkl]
 rw [hall]
 have hlenk:=lkN_len h.len
 generalize keysOf (es.map toEN)=ks at *
 have Tk:∀ s':SH,Ext s s'→Tm s' p m c es:=fun s' hE=>h.ext hp hm hE
 refine list_one ks (fun i (z:Value×Value×Value×Value×Value) (s':SH)=>∃ (last:Nat) (bs:List UInt8),z.2.1=U (last:Int)∧z.2.2.2.2=I (i:Int)∧GB s s' z.1 bs∧bs++enB last ((ks.drop i).map fun k=>(k,lkN es k))=vput es.length++enB 0 (ks.map fun k=>(k,lkN es k))∧bs.length≤10+30000*i∧(∀ k∈ks.drop i,last<k)) ?_ ?_ ⟨0,_,rfl,rfl,?_,by rw [List.drop_zero],?_,fun k hk=>?_⟩ (by show _<2^64; omega)
 · rintro i hi ⟨z1,z2,z3,z4,z5⟩ s' ⟨last,bs,e2,e5,hG,hcat,hlen,hlast⟩ nx hnx
   simp only at e2 e5 hG
   subst e2 e5
   have hd:ks.drop i=ks[i]::ks.drop (i+1):=List.drop_eq_getElem_cons hi
   have hmem:ks[i]∈ks:=List.getElem_mem hi
   have lt:(i:Int)<(es.length:Int):=by omega
   have ix:indexAddrD prog 67 (sl uN q0 ks) (I (i:Int))=some (fpV (uN ks[i]).toArray 0):=ixs67 uN_len hi
   have hnext:∀ k∈ks.drop (i+1),ks[i]<k:=fun k hk=>by
    obtain ⟨j,hj,rfl⟩:=List.mem_iff_getElem.1 hk
    rw [List.length_drop] at hj
    rw [List.getElem_drop]
    have a1:=List.pairwise_iff_getElem.1 hsorted i (i+1+j) hi (by omega) (by omega)
    have a2:ks[i]≠ks[i+1+j]:=List.pairwise_iff_getElem.1 hnd i (i+1+j) hi (by omega) (by omega)
    omega
   rw [hd] at hcat hlast
   have hlt:=hlast _ (List.mem_cons_self ..)
   have hsp:=hlk _ hmem
   obtain ⟨e0,he0,hk0⟩:=hkeys _ hmem
   have h64:ks[i]<2^64:=by rw [← hk0]; exact (h.good e0 he0).2.1
   generalize ks[i]=key at *
   have hlk2:=hlenk key
   have hcat:bs++(vput (key-last)++vput (lkN es key).length++spB 0 (lkN es key)++enB key ((ks.drop (i+1)).map fun k=>(k,lkN es k)))=vput es.length++enB 0 (ks.map fun k=>(k,lkN es k)):=hcat
   obtain ⟨q,hq⟩:=lookup_q (es.map toEn) (key:Int)
   rw [lk_N] at hq
   generalize lkN es key=l at *
   have w2:IntKind.u64.wrap ((key:Int)-(last:Int))=((key-last:Nat):Int):=by rw [wrap_u64 (by omega) (by omega)]; omega
   have w3:IntKind.u64.wrap (l.length:Int)=(l.length:Int):=wrap_u64 (by omega) (by omega)
   have w5:IntKind.i64.wrap ((i:Int)+1)=((i+1:Nat):Int):=by rw [wrap_i64 (by omega) (by omega)]; rfl
   have E0:Ext s s':=hG.choose_spec.2.2
   obtain ⟨v2,s2,e72a,G2,E2⟩:=put72 (n:=k) (x:=key-last) hG (by omega) (by omega)
   have hl1:=vput_len10 (x:=key-last) (by omega)
   have hl2:=vput_len10 (x:=l.length) (by omega)
   obtain ⟨v3,s3,e72b,G3,E3⟩:=put72 (n:=k) (x:=l.length) G2 (by omega) (by rw [List.length_append]; omega)
   have T0:=Tk s' E0
   have T2:=Tk s2 (E0.trans E2)
   have T3:=Tk s3 ((E0.trans E2).trans E3)
   have hlr:∀ s:SH,lenOfD prog s 160 (sl rg q (l.map toRg))=some (I (l.length:Int)):=fun s=>by rw [len_sl u160,List.length_map]
   have e72a:=oneS e72a
   have e72b:=oneS e72b
   simp only [f61_l0,oO,bindS,many1,jnE,boolS,gdB,fst',snd',bop_lss,lt,decide_true,condT,ix,ldUN,b_sub,w2,e72a,nil,fld158_0,ldTm T0.at_,ldTm T2.at_,ldTm T3.at_,hq s' m c T0.map,hq s2 m c T2.map,hq s3 m c T3.map,hlr,conv_int u3 u70,w3,e72b,Option.map_some,eqO_s,Bool.and_true]
   refine f61in G3 hsp hlk2 (by rw [List.length_append,List.length_append]; omega) fun v4 s4 a b G4 E4 hl4=>?_
   simp only [beq_yes,condT,bop_add,oi,bindS,w5]
   refine hnx (_,_,_,_,_) _ ⟨key,_,rfl,rfl,G4,?_,?_,hnext⟩
   · rw [← hcat]
     simp only [List.append_assoc]
   · rw [List.length_append,List.length_append] at hl4
     rw [List.length_append,List.length_append,List.length_append] at *
     omega
 · rintro ⟨z1,z2,z3,z4,z5⟩ s' ⟨last,bs,e2,e5,hG,hcat,hlen,hlast⟩ nx
   simp only at e2 e5 hG
   subst e2 e5
   have lt:¬ (ks.length:Int)<(es.length:Int):=by omega
   simp only [f61_l0,oO,bindS,many1,jnE,boolS,gdB,fst',snd',bop_lss,lt,decide_false,condF,beq_yes,condT]
   rw [List.drop_length] at hcat
   have hcat:bs=vput es.length++enB 0 (ks.map fun k=>(k,lkN es k)):=by rw [← hcat]; show bs=bs++[]; rw [List.append_nil]
   rw [← hcat]
   exact One.ret hG
 · exact (by rw [List.nil_append] at G1; exact G1.new _)
 · have:=vput_len10 (x:=es.length) (by omega); omega
 · rw [List.drop_zero] at hk
   obtain ⟨e,he,rfl⟩:=hkeys k hk
   exact (h.good e he).1
end Go.Proofs.Ytmhmbmogodofeaa.S
namespace Go.Proofs.Ytmhmbmogodofeaa.S
open Go.FS Go.RowKit
open Go.Proofs.Try (prog)
attribute [local congr] bind_cg cond_cg gd_cg
open Go.FS.Q
theorem ldat {s:SH} {t:TypeId} {id o:Nat} {cs:List Value} {v:Value} (ha:aggD prog t=some false) (h:HP.get s.h id=some (.row cs)) (hv:cs[o]?=some v):loadD prog s t (pt id o)=some v:=by rw [load_row h,part_one ha,hv]
section two
variable {n N a r m i:Nat} {b:List UInt8} {s':SH} {p q t1 t2 t3 t4 t5 t6:Value} {nx:(Value×Value×Value×Value×Value×Value×Value)→SH→Option (List (Value×SH))} {kx:Nat→(Value×Value×Value×Value×Value×Value×Value)→SH→Option (List (Value×SH))} {kr:(Value×Value×Value×Value×Value×Value×Value)→SH→Option (List (Value×SH))}
end two
end Go.Proofs.Ytmhmbmogodofeaa.S
namespace Go.Proofs.Ytmhmbmogodofeaa.S
open Go.FS Go.RowKit
open Go.Proofs.Try (prog)
attribute [local congr] bind_cg cond_cg gd_cg
open Go.FS.Q
theorem gapp160 {lo:Nat} {s:SH} {v:Value} {m2:Nat} {xs ys:List Rg} (h:Grow lo 2 rg s v xs) (hlo:lo≤s.n) (hb:(xs.length+ys.length)*16≤140737488355328) :
 ∃ v' s',appD prog false s 160 160 v (sl rg m2 ys)=some (v',s')∧Grow lo 2 rg s' v' (xs++ys)∧Sm lo s s'∧(∀ j,j<s.n→HP.get s.h j≠some (.tok xs.length 2)→HP.get s'.h j=HP.get s.h j) :=
 h.app (i:=Try.t163) hlo u160 u160 (by kernel_rfl) zr163 rfl (by kernel_rfl) (by kernel_rfl) (by decide) rg_len hb (by omega)
theorem ext2 (a b:Value):extractD (.tuple #[a,b]) 0=some a∧extractD (.tuple #[a,b]) 1=some b:=by cases a <;> exact ⟨rfl,rfl⟩
end Go.Proofs.Ytmhmbmogodofeaa.S
