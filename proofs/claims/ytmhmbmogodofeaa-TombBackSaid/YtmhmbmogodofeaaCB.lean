import Derived.Test.YtmhmbmogodofeaaCV
set_option autoImplicit false
set_option linter.unusedVariables false
set_option linter.unusedSimpArgs false
set_option maxRecDepth 100000
namespace Go.Proofs.Ytmhmbmogodofeaa.S
open Go.FS Go.RowKit
attribute [local congr] bind_cg cond_cg gd_cg
open Go.FS.Q
abbrev EL:=Nat×List (Nat×Nat)×Nat
def toRg (x:Nat×Nat):Rg:=((x.1:Int),(x.2:Int))
def toEn (e:EL):En:=((e.1:Int),e.2.1.map toRg,e.2.2)
def toEN (e:EL):EN:=(e.1,sl rg 0 (e.2.1.map toRg),e.2.2)
def lkN:List EL→Nat→List (Nat×Nat)
  | [],_=>[]
  | e :: l,k=>if e.1=k then e.2.1 else lkN l k
theorem lk_N (es:List EL) (k:Nat):lk (es.map toEn) (k:Int)=(lkN es k).map toRg:=by
  induction es with
  | nil=>rfl
  | cons e es ih =>
    rw [List.map_cons]
    unfold lk lkN
    by_cases h:e.1=k
    · rw [if_pos h,if_pos (show (toEn e).1=(k:Int) by show ((e.1:Nat):Int)=k; omega)]; rfl
    · rw [if_neg h,if_neg (show ¬ (toEn e).1=(k:Int) by show ¬ ((e.1:Nat):Int)=k; omega)]; exact ih
theorem ent_EN (es:List EL):(es.map toEn).map ent=(es.map toEN).map entN:=by
  rw [List.map_map,List.map_map]; rfl
structure Tm (s:SH) (p m c:Nat) (es:List EL):Prop where
  at_:TombAt s p m
  map:HP.get s.h m=some (.map ((es.map toEn).map ent) c)
  ok:MapOk (es.map toEN) c
  small:es.length≤1000
  len:∀ e∈es,e.2.1.length≤1000
  good:∀ e∈es,0<e.1∧e.1<2 ^ 64∧e.2.1≠[]∧SpOk true 0 e.2.1
theorem Tm.mapN {s:SH} {p m c:Nat} {es:List EL} (h:Tm s p m c es):HP.get s.h m=some (.map ((es.map toEN).map entN) c):=by rw [← ent_EN]; exact h.map
theorem Tm.ext {s s':SH} {p m c:Nat} {es:List EL} (h:Tm s p m c es) (hp:p<s.n) (hm:m<s.n) (k:Ext s s'):Tm s' p m c es :=
  ⟨by have:=h.at_; unfold TombAt at this ⊢; rw [k.2 p hp]; exact this,by rw [k.2 m hm]; exact h.map,h.ok,h.small,h.len,h.good⟩
def listOf (es:List EL):List (Nat×List (Nat×Nat)):=(keysOf (es.map toEN)).map fun k=>(k,lkN es k)
theorem keys_len (es:List EL):(keysOf (es.map toEN)).length=es.length:=by
  rw [(keysOf_perm _).length_eq,List.length_map,List.length_map]
theorem lkN_len {es:List EL} (h:∀ e∈es,e.2.1.length≤1000) (k:Nat):(lkN es k).length≤1000:=by
  induction es with
  | nil=>show 0≤_; omega
  | cons e es ih =>
    unfold lkN
    split
    · exact h e (List.mem_cons_self ..)
    · exact ih fun x hx=>h x (List.mem_cons_of_mem _ hx)
theorem lookup_q (es:List En) (k:Int):∃ q,∀ (s:SH) (m c:Nat),HP.get s.h m=some (.map (es.map ent) c)→lookupD Try.prog s 156 (.map (some m)) (.int .u64 k) false=some (sl rg q (lk es k)):=by
  have key:∀ (s:SH) (m c:Nat),HP.get s.h m=some (.map (es.map ent) c)→lookupD Try.prog s 156 (.map (some m)) (.int .u64 k) false=(findD (.int .u64 k) (es.map ent) 0).bind fun r=>(match r with | some (_,v)=>some (v,true) | none=>(zeroV Try.prog 160).map fun v=>(v,false)).map fun (p:Value×Bool)=>cond false (.tuple #[p.1,.bool p.2]) p.1:=fun s m c h=>by
    unfold lookupD
    rw [u156]
    simp only [keyFit70,condT,map_of h,bindS]
    rfl
  rcases find_lk es k 0 with ⟨j,e',h1,h2,h3,h4⟩ | ⟨h1,h2,h3⟩
  · exact ⟨0,fun s m c h=>by rw [key s m c h,h1,bindS]; rfl⟩
  · exact ⟨2,fun s m c h=>by rw [key s m c h,h1,bindS,zv160,h2]; rfl⟩
theorem ldTm {s:SH} {p m:Nat} (h:TombAt s p m):loadD Try.prog s 156 (pt p 0)=some (.map (some m)):=by rw [load_row h,part_one a156]; rfl
theorem ldUN {s:SH} (x:Nat):loadD Try.prog s 70 (fpV (uN x).toArray 0)=some (U (x:Int)):=by rw [load_fp,part_one a70]; rfl
theorem uN_len (x:Nat):(uN x).length=1:=rfl
theorem c109 {n p m c:Nat} {s:SH} {es:List EL} (h:Tm s p m c es) (hp:p<s.n) (hm:m<s.n) (hn:es.length+30≤n) :
    callD Try.prog AT (n+2) (.fn 109) [pt p 0] s=some [(sl uN (if es=[] then 2 else 0) (keysOf (es.map toEN)),newD s (.row [.map (some m)]))]:=by
  obtain ⟨k,rfl⟩:∃ k,n=k+1:=⟨n-1,by omega⟩
  rw [call_fn (fn:=Try.f109) rfl rfl (by kernel_rfl)]
  show bodyD Try.prog false _ _ 109 Try.f109 _ s=_
  rw [f109_r]
  have nil:nilCheckD (pt p 0)=some (pt p 0):=rfl
  have e101:=c101 (n:=k+1) h.at_
  have e156:=c156 atC (n:=k+1) (s:=s) m
  have e155:=c155 atC atA atB atN (n:=k+1) (a1:=s.n) (m:=m) (c:=c) (es:=es.map toEN) (s:=newD s (.row [.map (some m)])) (get_n0 s _) (by rw [get_old (by omega)]; exact h.mapN) (by rw [newD_n]; omega) (by rw [newD_n]; omega) h.ok (by rw [List.length_map]; have:=h.small; omega) (by rw [List.length_map]; omega)
  have hif:(if es.map toEN=[] then 2 else 0)=if es=[] then 2 else 0:=by cases es <;> rfl
  rw [hif] at e155
  simp only [f109,oO,bindS,many1,jnE,boolS,gdB,fst',snd',e101,uop_not,Bool.not_true,condF,nil,fld158_0,ldTm h.at_,e156,e155]
theorem eqO_s (v:Value):eqO HP (some v) v=true:=by simp [eqO,FG]
def GB (s0 s':SH) (v:Value) (bs:List UInt8):Prop:=∃ lo,s0.n≤lo∧Grow lo 1 by' s' v bs∧Ext s0 s'
theorem GB.new {s0 s':SH} {v:Value} {bs:List UInt8} (h:GB s0 s' v bs) (o:DObj):GB s0 (newD s' o) v bs:=by
  obtain ⟨lo,h1,h2,h3⟩:=h
  exact ⟨lo,h1,h2.new o,h3.new o⟩
theorem put72 {n x:Nat} {s0 s':SH} {v:Value} {bs:List UInt8} (h:GB s0 s' v bs) (hx:x<2 ^ 64) (hb:bs.length≤2 ^ 45) :
    ∃ v2 s2,callD Try.prog AT (n+3) (.fn 72) [v,U (x:Int)] s'=some [(v2,s2)]∧GB s0 s2 v2 (bs++vput x)∧Ext s' s2:=by
  obtain ⟨lo,h1,h2,h3⟩:=h
  obtain ⟨m,rfl⟩:=Grow.form h2
  obtain ⟨v2,s2,e,k1,k2⟩:=c72 (n:=n) (m:=m) (s:=s') bs x hx (by omega)
  have k2:Ext s' s2:=k2
  exact ⟨v2,s2,e,⟨s'.n,h3.1,k1,h3.trans k2⟩,k2⟩
theorem ld3at {s:SH} {id o:Nat} {cs:List Value} {v:Value} (h:HP.get s.h id=some (.row cs)) (hv:cs[o]?=some v):loadD Try.prog s 3 (pt id o)=some v:=by rw [load_row h,part_one a3,hv]
theorem f61in {n N q:Nat} {s0 s1:SH} {v:Value} {bs0:List UInt8} {l:List (Nat×Nat)} {kx:Nat→(Value×Value×Value)→SH→Option (List (Value×SH))} {kr:(Value×Value×Value)→SH→Option (List (Value×SH))} {Q:Value→SH→Prop} (hG:GB s0 s1 v bs0) (hS:SpOk true 0 l) (hl:l.length≤1000) (hb:bs0.length≤2 ^ 40)
    (hk:∀ v2 s2 a b,GB s0 s2 v2 (bs0++spB 0 l)→Ext s1 s2→(bs0++spB 0 l).length≤bs0.length+20*l.length→One (kx 2 (v2,a,b) s2) Q) :
    One (iterS (f61_l1 (dOps (H:=HP) Try.prog) (callD Try.prog AT (n+3)) N (sl rg q (l.map toRg)) (I (l.length:Int))) kx kr (2 ^ 64) (v,I 0,I 0) s1) Q:=by
  refine list_one l (fun j (z:Value×Value×Value) (s':SH)=>∃ (to:Nat) (bs:List UInt8) (first:Bool),z.2.1=I (to:Int)∧z.2.2=I (j:Int)∧GB s0 s' z.1 bs∧Ext s1 s'∧bs++spB to (l.drop j)=bs0++spB 0 l∧SpOk first to (l.drop j)∧bs.length≤bs0.length+20*j∧to≤MT) ?_ ?_ ⟨0,bs0,true,rfl,rfl,hG,.refl _,by rw [List.drop_zero],by rw [List.drop_zero]; exact hS,by omega,by decide⟩ (by omega)
  · rintro j hj ⟨z1,z2,z3⟩ s' ⟨to,bs,first,e2,e3,hG,hE,hcat,hS,hlen,hto⟩ nx hnx
    simp only at e2 e3 hG
    subst e2 e3
    have hMT:MT=35184372088832:=rfl
    have hd:l.drop j=l[j] :: l.drop (j+1):=List.drop_eq_getElem_cons hj
    rw [hd] at hcat hS
    have ix:indexAddrD Try.prog 160 (sl rg q (l.map toRg)) (I (j:Int))=some (fpV (rg (toRg l[j])).toArray 0):=by
      have:=ixs160 (m:=q) (k:=.i64) (xs:=l.map toRg) (enc:=rg) rg_len (i:=j) (by rw [List.length_map]; exact hj)
      rw [List.getElem_map] at this
      exact this
    generalize l[j]=x at *
    obtain ⟨o1,o2,o3,o4,o5⟩:=hS
    have lt:(j:Int)<(l.length:Int):=by omega
    have ld:loadD Try.prog s' 163 (fpV (rg (toRg x)).toArray 0)=some (.agg (rg (toRg x)).toArray):=by rw [load_fp,part_agg a163 z163 (l:=rg (toRg x)) rfl rfl]
    have al:allocD Try.prog s' 163=some (pt s'.n 0,newD s' (.row (rg (0,0)))):=alloc_at zr163
    have st:storeD Try.prog (newD s' (.row (rg (0,0)))) 163 (pt s'.n 0) (.agg (rg (toRg x)).toArray)=some (newD s' (.row (rg (toRg x)))):=st_n0 s' z163 rfl rfl rfl
    have gx:HP.get (newD s' (.row (rg (toRg x)))).h s'.n=some (.row (rg (toRg x))):=get_n0 s' _
    have w1:IntKind.i64.wrap ((x.1:Int)-(to:Int))=((x.1-to:Nat):Int):=by rw [wrap_i64 (by omega) (by omega)]; omega
    have w2:IntKind.u64.wrap ((x.1-to:Nat):Int)=((x.1-to:Nat):Int):=wrap_u64 (by omega) (by omega)
    have w3:IntKind.i64.wrap ((x.2:Int)-(x.1:Int))=((x.2-x.1:Nat):Int):=by rw [wrap_i64 (by omega) (by omega)]; omega
    have w4:IntKind.u64.wrap ((x.2-x.1:Nat):Int)=((x.2-x.1:Nat):Int):=wrap_u64 (by omega) (by omega)
    have w5:IntKind.i64.wrap ((j:Int)+1)=((j+1:Nat):Int):=by rw [wrap_i64 (by omega) (by omega)]; rfl
    have l0:loadD Try.prog (newD s' (.row (rg (toRg x)))) 3 (pt s'.n 0)=some (I (x.1:Int)):=ld3at gx rfl
    have hE1:Ext s' (newD s' (.row (rg (toRg x)))):=(Ext.refl s').new _
    obtain ⟨v2,s2,e72,G2,E2⟩:=put72 (n:=n) (x:=x.1-to) (hG.new (.row (rg (toRg x)))) (by omega) (by omega)
    have gx2:HP.get s2.h s'.n=some (.row (rg (toRg x))):=by rw [E2.2 _ (by rw [newD_n]; omega)]; exact gx
    have l1:loadD Try.prog (newD s' (.row (rg (toRg x)))) 3 (pt s'.n 1)=some (I (x.2:Int)):=ld3at gx rfl
    have l20:loadD Try.prog s2 3 (pt s'.n 0)=some (I (x.1:Int)):=ld3at gx2 rfl
    have l21:loadD Try.prog s2 3 (pt s'.n 1)=some (I (x.2:Int)):=ld3at gx2 rfl
    have hl1:=vput_len10 (x:=x.1-to) (by omega)
    have hl2:=vput_len10 (x:=x.2-x.1) (by omega)
    obtain ⟨v3,s3,e72b,G3,E3⟩:=put72 (n:=n) (x:=x.2-x.1) G2 (by omega) (by rw [List.length_append]; omega)
    have gx3:HP.get s3.h s'.n=some (.row (rg (toRg x))):=by rw [E3.2 _ (by have:=E2.1; rw [newD_n] at this; omega)]; exact gx2
    have l31:loadD Try.prog s3 3 (pt s'.n 1)=some (I (x.2:Int)):=ld3at gx3 rfl
    have e72:=oneS e72
    have e72b:=oneS e72b
    simp only [f61_l1,oO,bindS,many1,jnE,boolS,gdB,fst',snd',bop_lss,lt,decide_true,condT,ix,ld,al,st,fld163_0,fld163_1,l0,l1,l20,l21,l31,b_sub,w1,w3,conv_int u3 u70,w2,w4,e72,e72b,Option.map_some,eqO_s,Bool.and_true,bop_add,w5]
    refine hnx (_,_,_) _ ⟨x.2,_,false,rfl,rfl,G3,(hE.trans hE1).trans (E2.trans E3),?_,o5,by rw [List.length_append,List.length_append]; omega,o4⟩
    rw [← hcat]
    show _=bs++(vput (x.1-to)++vput (x.2-x.1)++spB x.2 (l.drop (j+1)))
    simp only [List.append_assoc]
  · rintro ⟨z1,z2,z3⟩ s' ⟨to,bs,first,e2,e3,hG,hE,hcat,hS,hlen,hto⟩ nx
    simp only at e2 e3 hG
    subst e2 e3
    have lt:¬ (l.length:Int)<(l.length:Int):=by omega
    simp only [f61_l1,oO,bindS,many1,jnE,boolS,gdB,fst',snd',bop_lss,lt,decide_false,condF]
    rw [List.drop_length] at hcat
    have hcat:bs=bs0++spB 0 l:=by rw [← hcat]; show bs=bs++[]; rw [List.append_nil]
    rw [← hcat] at hk
    exact hk _ _ _ _ hG hE hlen
theorem c61 {n p m c:Nat} {s:SH} {es:List EL} (h:Tm s p m c es) (hp:p<s.n) (hm:m<s.n) (hn:es.length+40≤n) :
    ∃ q,q≤2∧callD Try.prog AT (n+1) (.fn 61) [pt p 0] s=some [(sl by' q (allB (listOf es)),s)]:=by
  obtain ⟨k,rfl⟩:∃ k,n=k+3:=⟨n-3,by omega⟩
  suffices hh:One (bodyD Try.prog false (callD Try.prog AT (k+3)) AT.N 61 Try.f61 [pt p 0] s) fun v s'=>GB s s' v (allB (listOf es)) by
    obtain ⟨v,s',e,lo,h1,h2,h3⟩:=hh
    obtain ⟨q,hq,hq2,hq3⟩:=grow_cut h2 h1 (by_str s.n 5)
    refine ⟨q,by omega,?_⟩
    rw [← hq]
    have hnt:∀ a,v≠.tuple a:=by rcases h2 with ⟨_,rfl | rfl⟩ | ⟨id,_,_,rfl,_⟩ <;> intro a h <;> cases h
    exact cut_call (fn:=Try.f61) rfl rfl (by kernel_rfl) hnt (by rw [hq]; exact bel_sl (by omega) (by_bel s.n)) ⟨v,s',e,rfl,h3⟩
  rw [f61_r]
  have nil:nilCheckD (pt p 0)=some (pt p 0):=rfl
  have e101:=c101 (n:=k+2) h.at_
  have hlm:lenOfD Try.prog s 156 (.map (some m))=some (I (es.length:Int)):=by
    unfold lenOfD
    rw [u156]
    show (mapD s m).map _=_
    rw [map_of h.map]
    simp only [Option.map_some,List.length_map]
  have hsm:=h.small
  have w1:IntKind.u64.wrap (es.length:Int)=(es.length:Int):=wrap_u64 (by omega) (by omega)
  have G0:GB s s (fzV 2 #[]) []:=⟨s.n,Nat.le_refl _,.inl ⟨rfl,.inl rfl⟩,.refl s⟩
  obtain ⟨v1,s1,e72,G1,E1⟩:=put72 (n:=k) (x:=es.length) G0 (by omega) (by show 0≤_; omega)
  have T1:=h.ext hp hm E1
  have e109:=c109 (n:=k+1) T1 (by have:=E1.1; omega) (by have:=E1.1; omega) (by omega)
  have hkl:=keys_len es
  have hlen67:lenOfD Try.prog (newD s1 (.row [.map (some m)])) 67 (sl uN (if es=[] then 2 else 0) (keysOf (es.map toEN)))=some (I (es.length:Int)):=by rw [len_sl u67,hkl]
  simp only [f61,oO,bindS,many1,jnE,boolS,gdB,fst',snd',e101,uop_not,Bool.not_true,condF,nil,fld158_0,ldTm h.at_,hlm,conv_int u3 u70,w1,e72,e109,hlen67]
  generalize (if es=[] then 2 else 0)=q0
  have hkeys:∀ k∈keysOf (es.map toEN),∃ e∈es,e.1=k:=fun k hk=>by
    have:=(keysOf_perm (es.map toEN)).mem_iff.1 hk
    rw [List.map_map] at this
    obtain ⟨e,he,rfl⟩:=List.mem_map.1 this
    exact ⟨e,he,rfl⟩
  have hsorted:=keysOf_sorted (es.map toEN)
  have hnd:(keysOf (es.map toEN)).Nodup:=(keysOf_perm _).nodup_iff.2 h.ok.keys
  have hlk:∀ k∈keysOf (es.map toEN),SpOk true 0 (lkN es k):=fun k hk=>by
    obtain ⟨e,he,rfl⟩:=hkeys k hk
    have:lkN es e.1=e.2.1∨∃ f∈es,lkN es e.1=f.2.1:=by
      clear hkeys
      exact .inr (by
        have:∀ es:List EL,e∈es→∃ f∈es,lkN es e.1=f.2.1:=by
          intro es
          induction es with
          | nil=>intro he; cases he
          | cons a es ih =>
            intro he
            unfold lkN
            by_cases ha:a.1=e.1
            · exact ⟨a,List.mem_cons_self ..,by rw [if_pos ha]⟩
            · rw [if_neg ha]
              rcases List.mem_cons.1 he with rfl | he
              · exact absurd rfl ha
              · obtain ⟨f,hf,h⟩:=ih he
                exact ⟨f,List.mem_cons_of_mem _ hf,h⟩
        exact this es he)
    rcases this with h1 | ⟨f,hf,h1⟩
    · rw [h1]; exact (h.good e he).2.2.2
    · rw [h1]; exact (h.good f hf).2.2.2
  unfold listOf
  have hall:allB ((keysOf (es.map toEN)).map fun k=>(k,lkN es k))=vput es.length++enB 0 ((keysOf (es.map toEN)).map fun k=>(k,lkN es k)):=by
    unfold allB; rw [List.length_map,hkl]
  rw [hall]
  have hlenk:=lkN_len h.len
  generalize keysOf (es.map toEN)=ks at *
  have Tk:∀ s':SH,Ext s s'→Tm s' p m c es:=fun s' hE=>h.ext hp hm hE
  refine list_one ks (fun i (z:Value×Value×Value×Value×Value) (s':SH)=>∃ (last:Nat) (bs:List UInt8),z.2.1=U (last:Int)∧z.2.2.2.2=I (i:Int)∧GB s s' z.1 bs∧bs++enB last ((ks.drop i).map fun k=>(k,lkN es k))=vput es.length++enB 0 (ks.map fun k=>(k,lkN es k))∧bs.length≤10+30000*i∧(∀ k∈ks.drop i,last<k)) ?_ ?_ ⟨0,_,rfl,rfl,?_,by rw [List.drop_zero],?_,fun k hk=>?_⟩ (by show _<2 ^ 64; omega)
  · rintro i hi ⟨z1,z2,z3,z4,z5⟩ s' ⟨last,bs,e2,e5,hG,hcat,hlen,hlast⟩ nx hnx
    simp only at e2 e5 hG
    subst e2 e5
    have hd:ks.drop i=ks[i] :: ks.drop (i+1):=List.drop_eq_getElem_cons hi
    have hmem:ks[i]∈ks:=List.getElem_mem hi
    have lt:(i:Int)<(es.length:Int):=by omega
    have ix:indexAddrD Try.prog 67 (sl uN q0 ks) (I (i:Int))=some (fpV (uN ks[i]).toArray 0):=ixs67 uN_len hi
    have hnext:∀ k∈ks.drop (i+1),ks[i]<k:=fun k hk=>by
      obtain ⟨j,hj,rfl⟩:=List.mem_iff_getElem.1 hk
      rw [List.length_drop] at hj
      rw [List.getElem_drop]
      have a1:=List.pairwise_iff_getElem.1 hsorted i (i+1+j) hi (by omega) (by omega)
      have a2:ks[i]≠ks[i+1+j]:=List.pairwise_iff_getElem.1 hnd i (i+1+j) hi (by omega) (by omega)
      omega
    rw [hd] at hcat hlast
    have hlt:=hlast _ (List.mem_cons_self ..)
    have hsp:=hlk _ hmem
    obtain ⟨e0,he0,hk0⟩:=hkeys _ hmem
    have h64:ks[i]<2 ^ 64:=by rw [← hk0]; exact (h.good e0 he0).2.1
    generalize ks[i]=key at *
    have hlk2:=hlenk key
    have hcat:bs++(vput (key-last)++vput (lkN es key).length++spB 0 (lkN es key)++enB key ((ks.drop (i+1)).map fun k=>(k,lkN es k)))=vput es.length++enB 0 (ks.map fun k=>(k,lkN es k)):=hcat
    obtain ⟨q,hq⟩:=lookup_q (es.map toEn) (key:Int)
    rw [lk_N] at hq
    generalize lkN es key=l at *
    have w2:IntKind.u64.wrap ((key:Int)-(last:Int))=((key-last:Nat):Int):=by rw [wrap_u64 (by omega) (by omega)]; omega
    have w3:IntKind.u64.wrap (l.length:Int)=(l.length:Int):=wrap_u64 (by omega) (by omega)
    have w5:IntKind.i64.wrap ((i:Int)+1)=((i+1:Nat):Int):=by rw [wrap_i64 (by omega) (by omega)]; rfl
    have E0:Ext s s':=hG.choose_spec.2.2
    obtain ⟨v2,s2,e72a,G2,E2⟩:=put72 (n:=k) (x:=key-last) hG (by omega) (by omega)
    have hl1:=vput_len10 (x:=key-last) (by omega)
    have hl2:=vput_len10 (x:=l.length) (by omega)
    obtain ⟨v3,s3,e72b,G3,E3⟩:=put72 (n:=k) (x:=l.length) G2 (by omega) (by rw [List.length_append]; omega)
    have T0:=Tk s' E0
    have T2:=Tk s2 (E0.trans E2)
    have T3:=Tk s3 ((E0.trans E2).trans E3)
    have hlr:∀ s:SH,lenOfD Try.prog s 160 (sl rg q (l.map toRg))=some (I (l.length:Int)):=fun s=>by rw [len_sl u160,List.length_map]
    have e72a:=oneS e72a
    have e72b:=oneS e72b
    simp only [f61_l0,oO,bindS,many1,jnE,boolS,gdB,fst',snd',bop_lss,lt,decide_true,condT,ix,ldUN,b_sub,w2,e72a,nil,fld158_0,ldTm T0.at_,ldTm T2.at_,ldTm T3.at_,hq s' m c T0.map,hq s2 m c T2.map,hq s3 m c T3.map,hlr,conv_int u3 u70,w3,e72b,Option.map_some,eqO_s,Bool.and_true]
    refine f61in G3 hsp hlk2 (by rw [List.length_append,List.length_append]; omega) fun v4 s4 a b G4 E4 hl4=>?_
    simp only [beq_yes,condT,bop_add,oi,bindS,w5]
    refine hnx (_,_,_,_,_) _ ⟨key,_,rfl,rfl,G4,?_,?_,hnext⟩
    · rw [← hcat]
      simp only [List.append_assoc]
    · rw [List.length_append,List.length_append] at hl4
      rw [List.length_append,List.length_append,List.length_append] at *
      omega
  · rintro ⟨z1,z2,z3,z4,z5⟩ s' ⟨last,bs,e2,e5,hG,hcat,hlen,hlast⟩ nx
    simp only at e2 e5 hG
    subst e2 e5
    have lt:¬ (ks.length:Int)<(es.length:Int):=by omega
    simp only [f61_l0,oO,bindS,many1,jnE,boolS,gdB,fst',snd',bop_lss,lt,decide_false,condF,beq_yes,condT]
    rw [List.drop_length] at hcat
    have hcat:bs=vput es.length++enB 0 (ks.map fun k=>(k,lkN es k)):=by rw [← hcat]; show bs=bs++[]; rw [List.append_nil]
    rw [← hcat]
    exact One.ret hG
  · exact (by rw [List.nil_append] at G1; exact G1.new _)
  · have:=vput_len10 (x:=es.length) (by omega); omega
  · rw [List.drop_zero] at hk
    obtain ⟨e,he,rfl⟩:=hkeys k hk
    exact (h.good e he).1
end Go.Proofs.Ytmhmbmogodofeaa.S
set_option autoImplicit false
set_option linter.unusedVariables false
set_option linter.unusedSimpArgs false
set_option maxRecDepth 100000
namespace Go.Proofs.Ytmhmbmogodofeaa.S
open Go.FS Go.RowKit
attribute [local congr] bind_cg cond_cg gd_cg
open Go.FS.Q
theorem ext3 (a b c:Value):extractD (.tuple #[a,b,c]) 0=some a∧extractD (.tuple #[a,b,c]) 1=some b∧extractD (.tuple #[a,b,c]) 2=some c:=by cases a <;> exact ⟨rfl,rfl,rfl⟩
theorem ldat {s:SH} {t:TypeId} {id o:Nat} {cs:List Value} {v:Value} (ha:aggD Try.prog t=some false) (h:HP.get s.h id=some (.row cs)) (hv:cs[o]?=some v):loadD Try.prog s t (pt id o)=some v:=by rw [load_row h,part_one ha,hv]
theorem ix224_0 (id:Nat):indexAddrD Try.prog 224 (pt id 0) (I 0)=some (pt id 0):=by
  unfold indexAddrD; rw [u224]
  show ((sizeD Try.prog 70).bind fun z=>bif decide ((0:Int)≤0)&&decide ((0:Int)<2) then _ else none)=_
  rw [z70]; rfl
theorem ix224_1 (id:Nat):indexAddrD Try.prog 224 (pt id 0) (I 1)=some (pt id 1):=by
  unfold indexAddrD; rw [u224]
  show ((sizeD Try.prog 70).bind fun z=>bif decide ((0:Int)≤1)&&decide ((1:Int)<2) then _ else none)=_
  rw [z70]; rfl
abbrev rdr (B:Value) (i:Nat) (e:Int):List Value:=[B,I (i:Int),I e]
section two
variable {n N a r m i:Nat} {b:List UInt8} {s':SH} {p q t1 t2 t3 t4 t5 t6:Value} {nx:(Value×Value×Value×Value×Value×Value×Value)→SH→Option (List (Value×SH))} {kx:Nat→(Value×Value×Value×Value×Value×Value×Value)→SH→Option (List (Value×SH))} {kr:(Value×Value×Value×Value×Value×Value×Value)→SH→Option (List (Value×SH))}
theorem two_0 {Q:Value→SH→Prop} (hr:HP.get s'.h r=some (.row (rdr (sl by' m b) i 0))) (ha:HP.get s'.h a=some (.row [p,q])) (har:a≠r) (hi:i≤b.length) (hb:b.length<2 ^ 62)
    (hy:(vread b i).2.2=0→∀ w3 w4 w5 w6,One (nx (t1,t2,w3,w4,w5,w6,I 1) (putD (putD s' a (.row [U ((vread b i).1:Int),q])) r (.row (rdr (sl by' m b) (vread b i).2.1 0)))) Q)
    (hn:(vread b i).2.2≠0→∀ w3 w4 w5 w6 w7,One (kr (U 0,U 0,w3,w4,w5,w6,w7) (putD s' r (.row (rdr (sl by' m b) i (vread b i).2.2)))) Q) :
    One (f111_l0 (dOps (H:=HP) Try.prog) (callD Try.prog AT (n+1)) N (pt r 0) (pt a 0) nx kx kr (t1,t2,t3,t4,t5,t6,I 0) s') Q:=by
  have nil:nilCheckD (pt r 0)=some (pt r 0):=rfl
  have l0:loadD Try.prog s' 35 (pt r 0)=some (sl by' m b):=ldat a35 hr rfl
  have l1:loadD Try.prog s' 3 (pt r 1)=some (I (i:Int)):=ldat a3 hr rfl
  have e74:=oneS (c74 (n:=n) (m:=m) (s:=s') b i hi hb)
  unfold tup3 at e74
  by_cases h:(vread b i).2.2=0
  · have st:storeD Try.prog s' 70 (pt a 0) (U ((vread b i).1:Int))=some (putD s' a (.row [U ((vread b i).1:Int),q])):=by
      rw [store_row (l:=[U ((vread b i).1:Int)]) z70 ha rfl rfl rfl (by simp)]; rfl
    have hr2:HP.get (putD s' a (.row [U ((vread b i).1:Int),q])).h r=some (.row (rdr (sl by' m b) i 0)):=by rw [get_put_other (by omega)]; exact hr
    have st2:storeD Try.prog (putD s' a (.row [U ((vread b i).1:Int),q])) 3 (pt r 1) (I ((vread b i).2.1:Int))=some (putD (putD s' a (.row [U ((vread b i).1:Int),q])) r (.row (rdr (sl by' m b) (vread b i).2.1 0))):=by
      rw [store_row (l:=[I ((vread b i).2.1:Int)]) z3 hr2 rfl rfl rfl (by simp)]; rfl
    have w:IntKind.i64.wrap (0+1)=1:=by rw [wrap_i64 (by omega) (by omega)]; rfl
    simp only [f111_l0,oO,bindS,many1,jnE,boolS,gdB,fst',snd',bop_lss,show (0:Int)<2 from by omega,decide_true,condT,nil,fld176_0,fld176_1,l0,l1,e74,ext3,b_neq,h,Bool.not_true,condF,ix224_0,st,st2,bop_add,w]
    exact hy h _ _ _ _
  · have st:storeD Try.prog s' 26 (pt r 2) (I (vread b i).2.2)=some (putD s' r (.row (rdr (sl by' m b) i (vread b i).2.2))):=by
      rw [store_row (l:=[I (vread b i).2.2]) z26 hr rfl rfl rfl (Nat.le_refl 3)]; rfl
    simp only [f111_l0,oO,bindS,many1,jnE,boolS,gdB,fst',snd',bop_lss,show (0:Int)<2 from by omega,decide_true,condT,nil,fld176_0,fld176_1,fld176_2,l0,l1,e74,ext3,b_neq,h,decide_false,Bool.not_false,st]
    exact hn h _ _ _ _ _
theorem two_1 {Q:Value→SH→Prop} (hr:HP.get s'.h r=some (.row (rdr (sl by' m b) i 0))) (ha:HP.get s'.h a=some (.row [p,q])) (har:a≠r) (hi:i≤b.length) (hb:b.length<2 ^ 62)
    (hy:(vread b i).2.2=0→∀ w3 w4 w5 w6,One (nx (t1,t2,w3,w4,w5,w6,I 2) (putD (putD s' a (.row [p,U ((vread b i).1:Int)])) r (.row (rdr (sl by' m b) (vread b i).2.1 0)))) Q)
    (hn:(vread b i).2.2≠0→∀ w3 w4 w5 w6 w7,One (kr (U 0,U 0,w3,w4,w5,w6,w7) (putD s' r (.row (rdr (sl by' m b) i (vread b i).2.2)))) Q) :
    One (f111_l0 (dOps (H:=HP) Try.prog) (callD Try.prog AT (n+1)) N (pt r 0) (pt a 0) nx kx kr (t1,t2,t3,t4,t5,t6,I 1) s') Q:=by
  have nil:nilCheckD (pt r 0)=some (pt r 0):=rfl
  have l0:loadD Try.prog s' 35 (pt r 0)=some (sl by' m b):=ldat a35 hr rfl
  have l1:loadD Try.prog s' 3 (pt r 1)=some (I (i:Int)):=ldat a3 hr rfl
  have e74:=oneS (c74 (n:=n) (m:=m) (s:=s') b i hi hb)
  unfold tup3 at e74
  by_cases h:(vread b i).2.2=0
  · have st:storeD Try.prog s' 70 (pt a 1) (U ((vread b i).1:Int))=some (putD s' a (.row [p,U ((vread b i).1:Int)])):=by
      rw [store_row (l:=[U ((vread b i).1:Int)]) z70 ha rfl rfl rfl (by simp)]; rfl
    have hr2:HP.get (putD s' a (.row [p,U ((vread b i).1:Int)])).h r=some (.row (rdr (sl by' m b) i 0)):=by rw [get_put_other (by omega)]; exact hr
    have st2:storeD Try.prog (putD s' a (.row [p,U ((vread b i).1:Int)])) 3 (pt r 1) (I ((vread b i).2.1:Int))=some (putD (putD s' a (.row [p,U ((vread b i).1:Int)])) r (.row (rdr (sl by' m b) (vread b i).2.1 0))):=by
      rw [store_row (l:=[I ((vread b i).2.1:Int)]) z3 hr2 rfl rfl rfl (by simp)]; rfl
    have w:IntKind.i64.wrap (1+1)=2:=by rw [wrap_i64 (by omega) (by omega)]; rfl
    simp only [f111_l0,oO,bindS,many1,jnE,boolS,gdB,fst',snd',bop_lss,show (1:Int)<2 from by omega,decide_true,condT,nil,fld176_0,fld176_1,l0,l1,e74,ext3,b_neq,h,Bool.not_true,condF,ix224_1,st,st2,bop_add,w]
    exact hy h _ _ _ _
  · have st:storeD Try.prog s' 26 (pt r 2) (I (vread b i).2.2)=some (putD s' r (.row (rdr (sl by' m b) i (vread b i).2.2))):=by
      rw [store_row (l:=[I (vread b i).2.2]) z26 hr rfl rfl rfl (Nat.le_refl 3)]; rfl
    simp only [f111_l0,oO,bindS,many1,jnE,boolS,gdB,fst',snd',bop_lss,show (1:Int)<2 from by omega,decide_true,condT,nil,fld176_0,fld176_1,fld176_2,l0,l1,e74,ext3,b_neq,h,decide_false,Bool.not_false,st]
    exact hn h _ _ _ _ _
end two
theorem it_a {R σ:Type} {H:HeapI} {g:(σ→St H→Option R)→(Nat→σ→St H→Option R)→(σ→St H→Option R)→σ→St H→Option R} {kx:Nat→σ→St H→Option R} {kr:σ→St H→Option R} (x:σ) (s:St H):iterS g kx kr (2 ^ 64) x s=g (iterS g kx kr (2 ^ 64-1)) kx kr x s:=by
  rw [show (2 ^ 64:Nat)=(2 ^ 64-1)+1 from rfl,iterS_succ]
theorem it_b {R σ:Type} {H:HeapI} {g:(σ→St H→Option R)→(Nat→σ→St H→Option R)→(σ→St H→Option R)→σ→St H→Option R} {kx:Nat→σ→St H→Option R} {kr:σ→St H→Option R} (x:σ) (s:St H):iterS g kx kr (2 ^ 64-1) x s=g (iterS g kx kr (2 ^ 64-2)) kx kr x s:=by
  rw [show (2 ^ 64-1:Nat)=(2 ^ 64-2)+1 from rfl,iterS_succ]
theorem it_c {R σ:Type} {H:HeapI} {g:(σ→St H→Option R)→(Nat→σ→St H→Option R)→(σ→St H→Option R)→σ→St H→Option R} {kx:Nat→σ→St H→Option R} {kr:σ→St H→Option R} (x:σ) (s:St H):iterS g kx kr (2 ^ 64-2) x s=g (iterS g kx kr (2 ^ 64-3)) kx kr x s:=by
  rw [show (2 ^ 64-2:Nat)=(2 ^ 64-3)+1 from rfl,iterS_succ]
theorem c111 {n r m i:Nat} {b:List UInt8} {s:SH} (hr:HP.get s.h r=some (.row (rdr (sl by' m b) i 0))) (hrn:r<s.n) (hi:i≤b.length) (hb:b.length<2 ^ 62) :
    (∃ x y j s',twoF b i=some (x,y,j)∧callD Try.prog AT (n+2) (.fn 111) [pt r 0] s=some [(.tuple #[U (x:Int),U (y:Int)],s')]∧But r s s'∧HP.get s'.h r=some (.row (rdr (sl by' m b) j 0))) ∨
    (∃ e j s',twoF b i=none∧e≠0∧callD Try.prog AT (n+2) (.fn 111) [pt r 0] s=some [(.tuple #[U 0,U 0],s')]∧But r s s'∧HP.get s'.h r=some (.row (rdr (sl by' m b) j e))):=by
  suffices hh:One (bodyD Try.prog (AT.row 111) (callD Try.prog AT (n+1)) AT.N 111 Try.f111 [pt r 0] s) fun v s'=>But r s s'∧((∃ x y j,twoF b i=some (x,y,j)∧v=.tuple #[U (x:Int),U (y:Int)]∧HP.get s'.h r=some (.row (rdr (sl by' m b) j 0)))∨∃ e j,twoF b i=none∧e≠0∧v=.tuple #[U 0,U 0]∧HP.get s'.h r=some (.row (rdr (sl by' m b) j e))) by
    obtain ⟨v,s',e,hB,⟨x,y,j,h1,rfl,h2⟩ | ⟨e2,j,h1,h2,rfl,h3⟩⟩:=hh
    · exact .inl ⟨x,y,j,s',h1,by rw [call_fn (fn:=Try.f111) rfl rfl (by kernel_rfl)]; exact e,hB,h2⟩
    · exact .inr ⟨e2,j,s',h1,h2,by rw [call_fn (fn:=Try.f111) rfl rfl (by kernel_rfl)]; exact e,hB,h3⟩
  have hbd:bodyD Try.prog (AT.row 111) (callD Try.prog AT (n+1)) AT.N 111 Try.f111 [pt r 0] s=f111 (dOps Try.prog) (callD Try.prog AT (n+1)) (2 ^ 64) (pt r 0) s:=f111_r _ _ _ _
  rw [hbd]
  have al:allocD Try.prog s 224=some (pt s.n 0,newD s (.row [U 0,U 0])):=alloc_at zr224
  have hr1:HP.get (newD s (.row [U 0,U 0])).h r=some (.row (rdr (sl by' m b) i 0)):=by rw [get_old (by omega)]; exact hr
  have ha1:HP.get (newD s (.row [U 0,U 0])).h s.n=some (.row [U 0,U 0]):=get_n0 s _
  have hB1:But r s (newD s (.row [U 0,U 0])):=(But.refl r s).new _
  simp only [f111,oO,bindS,many1,jnE,boolS,gdB,fst',snd',al]
  generalize newD s (.row [U 0,U 0])=s1 at *
  have har:s.n≠r:=by omega
  rw [it_a]
  refine two_0 hr1 ha1 har hi hb (fun h1 w3 w4 w5 w6=>?_) fun h1 w3 w4 w5 w6 w7=>?_
  · obtain ⟨a1,a2⟩:=vread_at' hi h1
    have hj:=a1.le.2
    have hr2:HP.get (putD (putD s1 s.n (.row [U ((vread b i).1:Int),U 0])) r (.row (rdr (sl by' m b) (vread b i).2.1 0))).h r=some (.row (rdr (sl by' m b) (vread b i).2.1 0)):=get_put_same _
    have ha2:HP.get (putD (putD s1 s.n (.row [U ((vread b i).1:Int),U 0])) r (.row (rdr (sl by' m b) (vread b i).2.1 0))).h s.n=some (.row [U ((vread b i).1:Int),U 0]):=by rw [get_put_other (by omega)]; exact get_put_same _
    have hB2:But r s (putD (putD s1 s.n (.row [U ((vread b i).1:Int),U 0])) r (.row (rdr (sl by' m b) (vread b i).2.1 0))):=(hB1.putNew (Nat.le_refl _) _).put _
    generalize putD (putD s1 s.n (.row [U ((vread b i).1:Int),U 0])) r (.row (rdr (sl by' m b) (vread b i).2.1 0))=s2 at *
    rw [it_b]
    refine two_1 hr2 ha2 har hj hb (fun h2 w3 w4 w5 w6=>?_) fun h2 w3 w4 w5 w6 w7=>?_
    · have hr3:HP.get (putD (putD s2 s.n (.row [U ((vread b i).1:Int),U ((vread b (vread b i).2.1).1:Int)])) r (.row (rdr (sl by' m b) (vread b (vread b i).2.1).2.1 0))).h r=some (.row (rdr (sl by' m b) (vread b (vread b i).2.1).2.1 0)):=get_put_same _
      have ha3:HP.get (putD (putD s2 s.n (.row [U ((vread b i).1:Int),U ((vread b (vread b i).2.1).1:Int)])) r (.row (rdr (sl by' m b) (vread b (vread b i).2.1).2.1 0))).h s.n=some (.row [U ((vread b i).1:Int),U ((vread b (vread b i).2.1).1:Int)]):=by rw [get_put_other (by omega)]; exact get_put_same _
      have hB3:But r s (putD (putD s2 s.n (.row [U ((vread b i).1:Int),U ((vread b (vread b i).2.1).1:Int)])) r (.row (rdr (sl by' m b) (vread b (vread b i).2.1).2.1 0))):=(hB2.putNew (Nat.le_refl _) _).put _
      generalize putD (putD s2 s.n (.row [U ((vread b i).1:Int),U ((vread b (vread b i).2.1).1:Int)])) r (.row (rdr (sl by' m b) (vread b (vread b i).2.1).2.1 0))=s3 at *
      have l0:loadD Try.prog s3 70 (pt s.n 0)=some (U ((vread b i).1:Int)):=ldat a70 ha3 rfl
      have l1:loadD Try.prog s3 70 (pt s.n 1)=some (U ((vread b (vread b i).2.1).1:Int)):=ldat a70 ha3 rfl
      rw [it_c]
      simp only [f111_l0,oO,bindS,many1,jnE,boolS,gdB,fst',snd',bop_lss,show ¬ (2:Int)<2 from by omega,decide_false,condF,beq_yes,condT,ix224_0,ix224_1,l0,l1]
      exact One.ret ⟨hB3,.inl ⟨_,_,_,by unfold twoF; rw [if_pos h1,if_pos h2],rfl,hr3⟩⟩
    · exact One.ret ⟨hB2.put _,.inr ⟨_,_,by unfold twoF; rw [if_pos h1,if_neg h2],h2,rfl,get_put_same _⟩⟩
  · exact One.ret ⟨hB1.put _,.inr ⟨_,_,by unfold twoF; rw [if_neg h1],h1,rfl,get_put_same _⟩⟩
theorem c112 {n r i:Nat} {B:Value} {e:Int} {s:SH} (is:Bool) (hr:HP.get s.h r=some (.row (rdr B i e))) :
    callD Try.prog AT (n+1) (.fn 112) [pt r 0,.bool is] s=some [(.bool (is || !decide (e=0)),if e=0∧is=true then putD s r (.row (rdr B i 210)) else s)]:=by
  rw [call_fn (fn:=Try.f112) rfl rfl (by kernel_rfl)]
  have hbd:bodyD Try.prog (AT.row 112) (callD Try.prog AT n) AT.N 112 Try.f112 [pt r 0,.bool is] s=f112 (dOps Try.prog) (callD Try.prog AT n) (2 ^ 64) (pt r 0) (.bool is) s:=f112_r _ _ _ _ _
  rw [hbd]
  have nil:nilCheckD (pt r 0)=some (pt r 0):=rfl
  have l0:loadD Try.prog s 26 (pt r 2)=some (I e):=ldat a26 hr rfl
  by_cases he:e=0
  · cases is with
    | true =>
      have st:storeD Try.prog s 26 (pt r 2) (I 210)=some (putD s r (.row (rdr B i 210))):=by
        rw [store_row (l:=[I 210]) z26 hr rfl rfl rfl (Nat.le_refl 3)]; rfl
      have l1:loadD Try.prog (putD s r (.row (rdr B i 210))) 26 (pt r 2)=some (I 210):=ldat a26 (get_put_same _) rfl
      rw [if_pos ⟨he,rfl⟩]
      simp only [f112,oO,bindS,many1,jnE,boolS,gdB,fst',snd',nil,fld176_2,l0,bop_eql,he,decide_true,condT,st,l1,b_neq,show ¬ (210:Int)=0 from by omega,decide_false,Bool.not_false,Bool.true_or]
    | false =>
      rw [if_neg (by simp)]
      simp only [f112,oO,bindS,many1,jnE,boolS,gdB,fst',snd',nil,fld176_2,l0,bop_eql,he,decide_true,condT,condF,b_neq,Bool.not_true,Bool.or_self]
  · rw [if_neg fun h=>he h.1]
    simp only [f112,oO,bindS,many1,jnE,boolS,gdB,fst',snd',nil,fld176_2,l0,bop_eql,he,decide_false,condF,b_neq,Bool.not_false,Bool.or_true]
end Go.Proofs.Ytmhmbmogodofeaa.S
set_option autoImplicit false
set_option linter.unusedVariables false
set_option linter.unusedSimpArgs false
set_option maxRecDepth 100000
namespace Go.Proofs.Ytmhmbmogodofeaa.S
open Go.FS Go.RowKit
attribute [local congr] bind_cg cond_cg gd_cg
open Go.FS.Q
theorem jn_rule2 {α β:Type} {r:α} {f:α→β} (P:α→Prop) (Q:β→Prop) (h1:P r) (h2:∀ k,P k→Q (f k)):Q (jn r f):=by rw [jnE]; exact h2 r h1
theorem cut_butG {k:Nat} {f:FuncId} {fn:Func} (hI:AT.i f=none) (hc:AT.cut f=some [none]) (hf:(Try.prog).funcs[f]?=some fn) {args:List Value} {s:SH} {v v':Value} {s':SH} {id:Nat} {cs:List Value} (hid:id<s.n) (hcs:∀ x∈cs,Bel s.n x) (hv:∀ a,v'≠.tuple a) (hst:stripN 8 s.n v'=v) (hbel:Bel s.n v)
    (e:bodyD Try.prog (AT.row f) (callD Try.prog AT k) AT.N f fn args s=some [(v',s')]) (h2:But id s s') (h3:HP.get s'.h id=some (.row cs)):callD Try.prog AT (k+1) (.fn f) args s=some [(v,putD s id (.row cs))]:=by
  rw [call_cut hI hc hf,e,bindS,cut_at (fun i hi=>by
    by_cases hj:i=id
    · subst hj; exact .inr (by rw [h3]; exact hcs)
    · exact .inl (h2.2 i hi hj)) h2.1 hv (by rw [hst]; exact hbel),mrg_but h2 hid h3,hst]
theorem gapp160 {lo:Nat} {s:SH} {v:Value} {m2:Nat} {xs ys:List Rg} (h:Grow lo 2 rg s v xs) (hlo:lo≤s.n) (hb:(xs.length+ys.length)*16≤140737488355328) :
    ∃ v' s',appD Try.prog false s 160 160 v (sl rg m2 ys)=some (v',s')∧Grow lo 2 rg s' v' (xs++ys)∧Sm lo s s'∧(∀ j,j<s.n→HP.get s.h j≠some (.tok xs.length 2)→HP.get s'.h j=HP.get s.h j) :=
  h.app (i:=Try.t163) hlo u160 u160 (by kernel_rfl) zr163 rfl (by kernel_rfl) (by kernel_rfl) (by decide) rg_len hb (by omega)
theorem bl163 (a b:Int):buildD Try.prog 163 [(0,I a),(1,I b)]=some (.agg (rg (a,b)).toArray):=by kernel_rfl
theorem ext2 (a b:Value):extractD (.tuple #[a,b]) 0=some a∧extractD (.tuple #[a,b]) 1=some b:=by cases a <;> exact ⟨rfl,rfl⟩
def SpR (b:List UInt8) (N i r:Nat) (B:Value) (s:SH) (v:Value) (s':SH):Prop :=
  But r s s'∧((∃ l j,rdS b N true i 0=some (l,j)∧Grow s.n 2 rg s' v (l.map toRg)∧HP.get s'.h r=some (.row (rdr B j 0)))∨(rdS b N true i 0=none∧v=fzV 2 #[]∧∃ e j,e≠0∧HP.get s'.h r=some (.row (rdr B j e))))
theorem f113_run {n r m i N M:Nat} {b:List UInt8} {s:SH} (hr:HP.get s.h r=some (.row (rdr (sl by' m b) i 0))) (hrn:r<s.n) (hi:i≤b.length) (hb:b.length≤2 ^ 40) (hN:N<2 ^ 64) :
    One (f113 (dOps (H:=HP) Try.prog) (callD Try.prog AT (n+3)) (2 ^ 64) (pt r 0) (U (N:Int)) s) (SpR b N i r (sl by' m b) s):=by
  have hMT:MT=35184372088832:=rfl
  simp only [f113]
  refine loop_rule (fun d (x:Value×Value×Value×Value×Value×Value×Value) (s':SH)=>∃ (k at_ to:Nat) (l:List (Nat×Nat)),d=b.length-at_∧x.1=fzV 2 #[]∧x.2.2.1=U (to:Int)∧x.2.2.2.2.2.2=U (k:Int)∧k≤N∧to≤MT∧at_≤b.length∧l.length=k∧k≤at_∧Grow s.n 2 rg s' x.2.1 (l.map toRg)∧But r s s'∧HP.get s'.h r=some (.row (rdr (sl by' m b) at_ 0))∧rdS b N true i 0=(rdS b (N-k) (decide (k=0)) at_ to).map (fun z=>(l++z.1,z.2))) (fun R=>One R (SpR b N i r (sl by' m b) s)) ?_ (2 ^ 64) (b.length-i) _ _ ⟨0,i,0,[],rfl,rfl,rfl,rfl,Nat.zero_le _,by omega,hi,rfl,Nat.zero_le _,.inl ⟨rfl,.inl rfl⟩,But.refl _ _,hr,by
    rw [Nat.sub_zero]
    show rdS b N true i 0=(rdS b N true i 0).map (fun z=>([]++z.1,z.2))
    cases rdS b N true i 0 <;> rfl⟩ (by omega)
  rintro d ⟨z1,z2,z3,z4,z5,z6,z7⟩ s' ⟨k,at_,to,l,rfl,q1,q2,q3,hk,hto,hat,hll,hka,hG,hB,hg,heq⟩ nx hnx
  simp only at q1 q2 q3 hG
  subst q1 q2 q3
  by_cases hkN:k<N
  · have lt:(k:Int)<(N:Int):=by omega
    obtain ⟨N',hN'⟩:∃ N',N-k=N'+1:=⟨N-k-1,by omega⟩
    rw [hN'] at heq
    have hrd:rdS b (N'+1) (decide (k=0)) at_ to=(twoF b at_).bind fun q=>if MT<q.1∨MT<q.2.1∨MT<to+q.1+q.2.1∨(decide (k=0)=false∧q.1<2) then none else (rdS b N' false q.2.2 (to+q.1+q.2.1)).map fun r=>((to+q.1,to+q.1+q.2.1) :: r.1,r.2):=rfl
    rw [hrd] at heq
    have hrn':r<s'.n:=by have:=hB.1; omega
    rcases c111 (n:=n+1) (m:=m) hg hrn' hat (by omega) with ⟨x,y,j,s2,h2,e111,hB2,hg2⟩ | ⟨e,j,s2,h2,he,e111,hB2,hg2⟩
    · obtain ⟨hAt,hx64,hy64,hij,hjb⟩:=twoF_ok hat h2
      rw [h2] at heq
      simp only [Option.bind_some] at heq
      simp only [f113_l0,oO,bindS,many1,boolS,gdB,fst',snd',bop_lss,lt,decide_true,condT,e111,ext2]
      have hB3:=hB.trans hB2
      refine jn_rule2 (fun f=>((MT<x∨MT<y∨MT<to+x+y∨(decide (k=0)=false∧x<2))→∀ js j' e',e'≠0→But r s js→HP.get js.h r=some (.row (rdr (sl by' m b) j' e'))→One (f (.bool true) js) (SpR b N i r (sl by' m b) s))∧(¬ (MT<x∨MT<y∨MT<to+x+y∨(decide (k=0)=false∧x<2))→One (f (.bool false) s2) (SpR b N i r (sl by' m b) s))) (fun R=>One R (SpR b N i r (sl by' m b) s)) ⟨fun hbad js j' e' he' hBj hgj=>?_,fun hgood=>?_⟩ fun f hf=>?_
      · rw [if_pos hbad] at heq
        simp only [oO,bindS,many1,jnE,boolS,gdB,fst',snd',condT]
        exact One.ret ⟨hBj,.inr ⟨heq,rfl,e',j',he',hgj⟩⟩
      · rw [if_neg hgood] at heq
        have hx:x≤MT:=Nat.not_lt.1 fun h=>hgood (.inl h)
        have hy:y≤MT:=Nat.not_lt.1 fun h=>hgood (.inr (.inl h))
        have hxy:to+x+y≤MT:=Nat.not_lt.1 fun h=>hgood (.inr (.inr (.inl h)))
        have w1:IntKind.u64.wrap ((to:Int)+(x:Int))=((to+x:Nat):Int):=by rw [wrap_u64 (by omega) (by omega)]; rfl
        have w2:IntKind.u64.wrap (((to+x:Nat):Int)+(y:Int))=((to+x+y:Nat):Int):=by rw [wrap_u64 (by omega) (by omega)]; rfl
        have w3:IntKind.u64.wrap ((x:Int)+(y:Int))=((x+y:Nat):Int):=by rw [wrap_u64 (by omega) (by omega)]; rfl
        have w4:IntKind.u64.wrap ((to:Int)+((x+y:Nat):Int))=((to+x+y:Nat):Int):=by rw [wrap_u64 (by omega) (by omega)]; omega
        have w5:IntKind.i64.wrap ((to+x:Nat):Int)=((to+x:Nat):Int):=wrap_i64 (by omega) (by omega)
        have w6:IntKind.i64.wrap ((to+x+y:Nat):Int)=((to+x+y:Nat):Int):=wrap_i64 (by omega) (by omega)
        have w7:IntKind.u64.wrap ((k:Int)+1)=((k+1:Nat):Int):=by rw [wrap_u64 (by omega) (by omega)]; rfl
        have hG2:Grow s.n 2 rg s2 z2 (l.map toRg):=hG.mono hB2.1 fun id h1 h2 h3=>hB2.2 id h2 fun e=>by
          rw [e,hg] at h3; cases h3
        obtain ⟨v',s3,e1,k1,k2,k3⟩:=gapp160 (m2:=1) (ys:=[(((to+x:Nat):Int),((to+x+y:Nat):Int))]) hG2 (by have:=hB3.1; omega) (by rw [List.length_map,List.length_singleton]; omega)
        have hB4:But r s s3:=⟨Nat.le_trans hB3.1 k2.1,fun j hj hne=>(k2.2 j hj).trans (hB3.2 j hj hne)⟩
        have hg3:HP.get s3.h r=some (.row (rdr (sl by' m b) j 0)):=by rw [k2.2 r hrn]; exact hg2
        simp only [oO,bindS,many1,jnE,boolS,gdB,fst',snd',condF,bop_add,w1,w2,conv_int u70 u3,w5,w6,bl163,bs160,e1,w3,w4,w7]
        refine hnx (b.length-j) (_,_,_,_,_,_,_) _ (by omega) ⟨k+1,j,to+x+y,l++[(to+x,to+x+y)],rfl,rfl,rfl,rfl,hkN,hxy,hjb,by rw [List.length_append,hll]; rfl,by omega,?_,hB4,hg3,?_⟩
        · rw [List.map_append]; exact k1
        · rw [heq,show N-(k+1)=N' from by omega,show decide (k+1=0)=false from by simp]
          cases rdS b N' false j (to+x+y) with
          | none=>rfl
          | some z=>simp
      · have c1:=c112 (n:=n+2) (e:=0) true hg2
        rw [if_pos ⟨rfl,rfl⟩] at c1
        simp only [Bool.true_or] at c1
        have gb:HP.get (putD s2 r (.row (rdr (sl by' m b) j 210))).h r=some (.row (rdr (sl by' m b) j 210)):=get_put_same _
        have hBb:But r s (putD s2 r (.row (rdr (sl by' m b) j 210))):=hB3.put _
        have cF:=c112 (n:=n+2) (e:=0) false hg2
        rw [if_neg (by simp)] at cF
        simp only [decide_true,Bool.not_true,Bool.or_false] at cF
        by_cases b1:MT<x
        · have gx:(x:Int)>35184372088832:=by omega
          simp only [oO,bindS,many1,jnE,boolS,gdB,fst',snd',bop_gtr,gx,decide_true,condT,c1]
          exact hf.1 (.inl b1) _ _ _ (by decide) hBb gb
        · have gx:¬ (x:Int)>35184372088832:=by omega
          by_cases b2:MT<y
          · have gy:(y:Int)>35184372088832:=by omega
            simp only [oO,bindS,many1,jnE,boolS,gdB,fst',snd',bop_gtr,gx,gy,decide_true,decide_false,condT,condF,c1]
            exact hf.1 (.inr (.inl b2)) _ _ _ (by decide) hBb gb
          · have gy:¬ (y:Int)>35184372088832:=by omega
            have w1:IntKind.u64.wrap ((to:Int)+(x:Int))=((to+x:Nat):Int):=by rw [wrap_u64 (by omega) (by omega)]; rfl
            have w2:IntKind.u64.wrap (((to+x:Nat):Int)+(y:Int))=((to+x+y:Nat):Int):=by rw [wrap_u64 (by omega) (by omega)]; rfl
            by_cases b3:MT<to+x+y
            · have gz:((to+x+y:Nat):Int)>35184372088832:=by omega
              simp only [oO,bindS,many1,jnE,boolS,gdB,fst',snd',bop_gtr,gx,gy,bop_add,w1,w2,gz,decide_true,decide_false,condT,condF,c1]
              exact hf.1 (.inr (.inr (.inl b3))) _ _ _ (by decide) hBb gb
            · have gz:¬ ((to+x+y:Nat):Int)>35184372088832:=by omega
              by_cases hk0:k=0
              · have gk:¬ (k:Int)>0:=by omega
                simp only [oO,bindS,many1,jnE,boolS,gdB,fst',snd',bop_gtr,gx,gy,bop_add,w1,w2,gz,gk,decide_false,condF,cF]
                exact hf.2 (by
                  rintro (h | h | h | ⟨h,_⟩)
                  · exact b1 h
                  · exact b2 h
                  · exact b3 h
                  · rw [hk0] at h; cases h)
              · have gk:(k:Int)>0:=by omega
                by_cases b4:x<2
                · have g2:(x:Int)<2:=by omega
                  simp only [oO,bindS,many1,jnE,boolS,gdB,fst',snd',bop_gtr,gx,gy,bop_add,w1,w2,gz,gk,decide_true,decide_false,condT,condF,bop_lss,g2,c1]
                  exact hf.1 (.inr (.inr (.inr ⟨by simp [hk0],b4⟩))) _ _ _ (by decide) hBb gb
                · have g2:¬ (x:Int)<2:=by omega
                  simp only [oO,bindS,many1,jnE,boolS,gdB,fst',snd',bop_gtr,gx,gy,bop_add,w1,w2,gz,gk,decide_true,decide_false,condT,condF,bop_lss,g2,cF]
                  exact hf.2 (by
                    rintro (h | h | h | ⟨_,h⟩)
                    · exact b1 h
                    · exact b2 h
                    · exact b3 h
                    · exact b4 h)
    · rw [h2] at heq
      have hB3:=hB.trans hB2
      have heq:rdS b N true i 0=none:=by rw [heq]; rfl
      have c1:=fun is=>c112 (n:=n+2) (e:=e) is hg2
      simp only [he,false_and,if_false,decide_false,Bool.not_false,Bool.or_true] at c1
      have w1:IntKind.u64.wrap ((to:Int)+0)=(to:Int):=by rw [wrap_u64 (by omega) (by omega)]; omega
      have gz:¬ (to:Int)>35184372088832:=by omega
      by_cases hk0:k=0
      · have gk:¬ (k:Int)>0:=by omega
        simp only [f113_l0,oO,bindS,many1,jnE,boolS,gdB,fst',snd',bop_lss,lt,decide_true,condT,e111,ext2,bop_gtr,show ¬ (0:Int)>35184372088832 from by omega,decide_false,condF,bop_add,w1,gz,gk,c1]
        exact One.ret ⟨hB3,.inr ⟨heq,rfl,e,j,he,hg2⟩⟩
      · have gk:(k:Int)>0:=by omega
        simp only [f113_l0,oO,bindS,many1,jnE,boolS,gdB,fst',snd',bop_lss,lt,decide_true,condT,e111,ext2,bop_gtr,show ¬ (0:Int)>35184372088832 from by omega,decide_false,condF,bop_add,w1,gz,gk,show (0:Int)<2 from by omega,c1]
        exact One.ret ⟨hB3,.inr ⟨heq,rfl,e,j,he,hg2⟩⟩
  · have lt:¬ (k:Int)<(N:Int):=by omega
    have:k=N:=by omega
    subst this
    rw [Nat.sub_self] at heq
    simp only [f113_l0,oO,bindS,many1,jnE,boolS,gdB,fst',snd',bop_lss,lt,decide_false,condF,beq_yes,condT]
    exact One.ret ⟨hB,.inl ⟨l,at_,by rw [heq]; simp [rdS],hG,hg⟩⟩
theorem by_bel2 {n m:Nat} (hm:m<n+3) (b:List UInt8):Bel n (sl by' m b):=bel_sl hm fun x=>by_bel n x
theorem c113 {n r m i N:Nat} {b:List UInt8} {s:SH} (hr:HP.get s.h r=some (.row (rdr (sl by' m b) i 0))) (hrn:r<s.n) (hm:m<s.n+3) (hi:i≤b.length) (hb:b.length≤2 ^ 40) (hN:N<2 ^ 64) :
    (∃ l j q,rdS b N true i 0=some (l,j)∧(l≠[]→q=0)∧callD Try.prog AT (n+4) (.fn 113) [pt r 0,U (N:Int)] s=some [(sl rg q (l.map toRg),putD s r (.row (rdr (sl by' m b) j 0)))])∨(∃ e j,rdS b N true i 0=none∧e≠0∧callD Try.prog AT (n+4) (.fn 113) [pt r 0,U (N:Int)] s=some [(sl rg 2 [],putD s r (.row (rdr (sl by' m b) j e)))]):=by
  obtain ⟨v',s',e,hB,h⟩:=f113_run (n:=n) (M:=0) hr hrn hi hb hN
  have e:bodyD Try.prog (AT.row 113) (callD Try.prog AT (n+3)) AT.N 113 Try.f113 [pt r 0,U (N:Int)] s=some [(v',s')]:=(f113_r _ _ _ _ _).trans e
  have hcs:∀ j e,∀ x∈rdr (sl by' m b) j e,Bel s.n x:=fun j e x hx=>by
    simp only [List.mem_cons,List.not_mem_nil,or_false] at hx
    rcases hx with rfl | rfl | rfl
    · exact by_bel2 hm b
    · exact .int _ _
    · exact .int _ _
  rcases h with ⟨l,j,h1,hG,hg⟩ | ⟨h1,rfl,e',j,he,hg⟩
  · obtain ⟨q,hq,hq2,hq3⟩:=grow_cut hG (n:=s.n) (Nat.le_refl _) (rg_strip s.n)
    exact .inl ⟨l,j,q,h1,fun hl=>hq3 (by simpa using hl),cut_butG (fn:=Try.f113) rfl rfl (by kernel_rfl) hrn (hcs j 0) (Grow.ntup hG) hq (bel_sl (by omega) (rg_bel s.n)) e hB hg⟩
  · refine .inr ⟨e',j,h1,he,cut_butG (fn:=Try.f113) rfl rfl (by kernel_rfl) hrn (hcs j e') (fun _ h=>by cases h) ?_ (bel_sl (by omega) (rg_bel s.n)) e hB hg⟩
    exact strip_sl (by omega) []
end Go.Proofs.Ytmhmbmogodofeaa.S
