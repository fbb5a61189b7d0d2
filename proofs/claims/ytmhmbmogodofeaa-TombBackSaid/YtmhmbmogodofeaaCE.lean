import Derived.Test.YtmhmbmogodofeaaCB
set_option autoImplicit false
set_option linter.unusedVariables false
set_option linter.unusedSimpArgs false
set_option maxRecDepth 100000
namespace Go.Proofs.Ytmhmbmogodofeaa.S
open Go.FS Go.RowKit
attribute [local congr] bind_cg cond_cg gd_cg
open Go.FS.Q
abbrev LT:=List (Nat×List (Nat×Nat))
def enL:Nat→LT→List EL
  | _,[]=>[]
  | c,e :: L=>(e.1,e.2,c) :: enL (c+1) L
theorem enL_app:∀ (c:Nat) (L:LT) (e:Nat×List (Nat×Nat)),enL c (L++[e])=enL c L++[(e.1,e.2,c+L.length)]
  | c,[],e=>rfl
  | c,a :: L,e=>by
    show (a.1,a.2,c) :: enL (c+1) (L++[e])=(a.1,a.2,c) :: (enL (c+1) L++[(e.1,e.2,c+(L.length+1))])
    rw [enL_app (c+1) L e,show c+1+L.length=c+(L.length+1) from by omega]
theorem enL_mem:∀ (c:Nat) (L:LT) (x:EL),x∈enL c L→(x.1,x.2.1)∈L
  | c,[],x,h=>by cases h
  | c,a :: L,x,h=>by
    rcases List.mem_cons.1 h with rfl | h
    · exact List.mem_cons_self ..
    · exact List.mem_cons_of_mem _ (enL_mem (c+1) L x h)
theorem upd_new {s:SH} {m c:Nat} {es:List En} (h:HP.get s.h m=some (.map (es.map ent) c)) {k:Int} (hnew:∀ e∈es,e.1≠k) (v:Value):mapUpdateD Try.prog s 156 (.map (some m)) (.int .u64 k) v=some (putD s m (.map (es.map ent++[(.int .u64 k,v,c)]) (c+1))):=by
  have e:mapUpdateD Try.prog s 156 (.map (some m)) (.int .u64 k) v=(findD (.int .u64 k) (es.map ent) 0).bind fun r=>match r with
      | some (i,_)=>((es.map ent)[i]?).map fun e=>putD s m (.map ((es.map ent).set i (.int .u64 k,v,e.2.2)) c)
      | none=>some (putD s m (.map ((es.map ent)++[(.int .u64 k,v,c)]) (c+1))):=by
    unfold mapUpdateD
    rw [u156]
    simp only [keyFit70,condT,map_of h,bindS]
    rfl
  rcases find_lk es k 0 with ⟨j,e',h1,h2,h3,h4⟩ | ⟨h1,h2,h3⟩
  · exact absurd h3 (hnew e' (List.mem_of_getElem? h2))
  · rw [e,h1,bindS]
theorem bl176 (m j:Nat) (b:List UInt8):buildD Try.prog 176 [(0,sl by' m b),(1,I (j:Int))]=some (.agg (rdr (sl by' m b) j 0).toArray):=by kernel_rfl
theorem c62 {n m i:Nat} {b:List UInt8} {s:SH} (hi:i≤b.length) (hb:b.length≤2 ^ 40) (hm:m<s.n+3) :
    (∃ L j s',readT b i=some (L,j)∧callD Try.prog AT (n+6) (.fn 62) [sl by' m b,I (i:Int)] s=some [(.tuple #[pt (s.n+1) 0,I (j:Int),I 0],s')]∧Ext s s'∧s.n+2≤s'.n∧TombAt s' (s.n+1) s.n∧HP.get s'.h s.n=some (.map (((enL 0 L).map toEn).map ent) L.length)) ∨
    (readT b i=none∧∃ e s',e≠0∧callD Try.prog AT (n+6) (.fn 62) [sl by' m b,I (i:Int)] s=some [(.tuple #[.pointer none,I 0,I e],s')]∧Ext s s'):=by
  suffices hh:One (bodyD Try.prog (AT.row 62) (callD Try.prog AT (n+5)) AT.N 62 Try.f62 [sl by' m b,I (i:Int)] s) fun v s'=>Ext s s'∧((∃ L j,readT b i=some (L,j)∧v=.tuple #[pt (s.n+1) 0,I ((j:Nat):Int),I 0]∧s.n+2≤s'.n∧TombAt s' (s.n+1) s.n∧HP.get s'.h s.n=some (.map (((enL 0 L).map toEn).map ent) L.length))∨(readT b i=none∧∃ e,e≠0∧v=.tuple #[.pointer none,I 0,I e])) by
    obtain ⟨v,s',e,hE,⟨L,j,h1,rfl,h2,h3,h4⟩ | ⟨h1,e',he,rfl⟩⟩:=hh
    · exact .inl ⟨L,j,s',h1,by rw [call_fn (fn:=Try.f62) rfl rfl (by kernel_rfl)]; exact e,hE,h2,h3,h4⟩
    · exact .inr ⟨h1,e',s',he,by rw [call_fn (fn:=Try.f62) rfl rfl (by kernel_rfl)]; exact e,hE⟩
  have hbd:bodyD Try.prog (AT.row 62) (callD Try.prog AT (n+5)) AT.N 62 Try.f62 [sl by' m b,I (i:Int)] s=f62 (dOps Try.prog) (callD Try.prog AT (n+5)) (2 ^ 64) (sl by' m b) (I (i:Int)) s:=f62_r _ _ _ _ _
  rw [hbd]
  have e74:=c74 (n:=n+4) (m:=m) (s:=s) b i hi (by omega)
  unfold tup3 at e74
  by_cases h0:(vread b i).2.2=0
  · obtain ⟨a1,a2⟩:=vread_at' hi h0
    have hread:readT b i=rdE b (vread b i).1 (vread b i).2.1 0:=by unfold readT; rw [if_pos h0]
    have hj0:=a1.le.2
    have e46:=c46 (n:=n+4) (s:=s)
    have hbx:boxD (newD (newD s (.map [] 0)) (.row [.map (some s.n)])) (.agg (rdr (sl by' m b) (vread b i).2.1 0).toArray)=some (pt (s.n+2) 0,newD (newD (newD s (.map [] 0)) (.row [.map (some s.n)])) (.row (rdr (sl by' m b) (vread b i).2.1 0))):=box_at rfl rfl
    simp only [f62,oO,bindS,many1,jnE,boolS,gdB,fst',snd',e74,ext3,b_neq,h0,decide_true,Bool.not_true,condF,e46,bl176,hbx]
    rw [hread]
    generalize (vread b i).1=N at *
    generalize (vread b i).2.1=i1 at *
    have hx0:Ext s (newD (newD (newD s (.map [] 0)) (.row [.map (some s.n)])) (.row (rdr (sl by' m b) i1 0))):=(((Ext.refl s).new _).new _).new _
    have hx1:HP.get (newD (newD (newD s (.map [] 0)) (.row [.map (some s.n)])) (.row (rdr (sl by' m b) i1 0))).h s.n=some (.map [] 0):=by rw [get_old (by simp only [newD_n]; omega),get_old (by simp only [newD_n]; omega)]; exact get_n0 s _
    have hx2:TombAt (newD (newD (newD s (.map [] 0)) (.row [.map (some s.n)])) (.row (rdr (sl by' m b) i1 0))) (s.n+1) s.n:=by
      unfold TombAt; rw [get_old (by simp only [newD_n]; omega)]; exact get_new (by rw [newD_n])
    have hx3:HP.get (newD (newD (newD s (.map [] 0)) (.row [.map (some s.n)])) (.row (rdr (sl by' m b) i1 0))).h (s.n+2)=some (.row (rdr (sl by' m b) i1 0)):=get_new (by simp only [newD_n])
    have hx4:(newD (newD (newD s (.map [] 0)) (.row [.map (some s.n)])) (.row (rdr (sl by' m b) i1 0))).n=s.n+3:=by simp only [newD_n]
    generalize newD (newD (newD s (.map [] 0)) (.row [.map (some s.n)])) (.row (rdr (sl by' m b) i1 0))=s1 at *
    obtain ⟨Q,hQ⟩:∃ Q:Value→SH→Prop,Q=fun v s'=>Ext s s'∧((∃ L j,rdE b N i1 0=some (L,j)∧v=.tuple #[pt (s.n+1) 0,I ((j:Nat):Int),I 0]∧s.n+2≤s'.n∧TombAt s' (s.n+1) s.n∧HP.get s'.h s.n=some (.map (((enL 0 L).map toEn).map ent) L.length))∨(rdE b N i1 0=none∧∃ e,e≠0∧v=.tuple #[.pointer none,I 0,I e])):=⟨_,rfl⟩
    rw [← hQ]
    have nilr:nilCheckD (pt (s.n+2) 0)=some (pt (s.n+2) 0):=rfl
    have nilp:nilCheckD (pt (s.n+1) 0)=some (pt (s.n+1) 0):=rfl
    refine loop_rule (fun d (x:Value×Value×Value×Value×Value×Value×Value) (s':SH)=>∃ (k at_ last:Nat) (L:LT),d=b.length-at_∧x.2.2.2.1=U (last:Int)∧x.2.2.2.2.2.2=U (k:Int)∧k≤N∧last<2 ^ 64∧at_≤b.length∧L.length=k∧(∀ e∈L,e.1≤last)∧Ext s s'∧s.n+3≤s'.n∧TombAt s' (s.n+1) s.n∧HP.get s'.h s.n=some (.map (((enL 0 L).map toEn).map ent) k)∧HP.get s'.h (s.n+2)=some (.row (rdr (sl by' m b) at_ 0))∧rdE b N i1 0=(rdE b (N-k) at_ last).map (fun z=>(L++z.1,z.2))) (fun R=>One R Q) ?_ (2 ^ 64) (b.length-i1) _ _ ⟨0,i1,0,[],rfl,rfl,rfl,Nat.zero_le _,by decide,hj0,rfl,(fun e he=>by cases he),hx0,by omega,hx2,hx1,hx3,by
      rw [Nat.sub_zero]
      cases rdE b N i1 0 <;> rfl⟩ (by omega)
    rintro d ⟨z1,z2,z3,z4,z5,z6,z7⟩ s' ⟨k,at_,last,L,rfl,q1,q2,hk,hlast,hat,hLl,hLk,hE,hn,hp,hmap,hg,heq⟩ nx hnx
    simp only at q1 q2
    subst q1 q2
    by_cases hkN:k<N
    · have lt:(k:Int)<(N:Int):=by omega
      obtain ⟨N',hN'⟩:∃ N',N-k=N'+1:=⟨N-k-1,by omega⟩
      rw [hN'] at heq
      have hrd:rdE b (N'+1) at_ last=(twoF b at_).bind fun q=>if q.1=0∨2 ^ 64≤last+q.1∨q.2.1=0 then none else (rdS b q.2.1 true q.2.2 0).bind fun r=>(rdE b N' r.2 (last+q.1)).map fun t=>((last+q.1,r.1) :: t.1,t.2):=rfl
      rw [hrd] at heq
      rcases c111 (n:=n+3) (m:=m) hg (by omega) hat (by omega) with ⟨x,y,j,s2,h2,e111,hB2,hg2⟩ | ⟨e,j,s2,h2,he,e111,hB2,hg2⟩
      · obtain ⟨hAt,hx64,hy64,hij,hjb⟩:=twoF_ok hat h2
        rw [h2] at heq
        simp only [Option.bind_some] at heq
        have hE2:Ext s s2:=⟨Nat.le_trans hE.1 hB2.1,fun i hi=>by rw [hB2.2 i (by omega) (by omega)]; exact hE.2 i hi⟩
        have hn2:s.n+3≤s2.n:=Nat.le_trans hn hB2.1
        have hp2:TombAt s2 (s.n+1) s.n:=by unfold TombAt; rw [hB2.2 _ (by omega) (by omega)]; exact hp
        have hm2:HP.get s2.h s.n=some (.map (((enL 0 L).map toEn).map ent) k):=by rw [hB2.2 _ (by omega) (by omega)]; exact hmap
        simp only [f62_l0,oO,bindS,many1,boolS,gdB,fst',snd',bop_lss,lt,decide_true,condT,e111,ext2]
        refine jn_rule2 (fun f=>((x=0∨2 ^ 64≤last+x∨y=0)→∀ js j' e',e'≠0→Ext s js→HP.get js.h (s.n+2)=some (.row (rdr (sl by' m b) j' e'))→One (f (.bool true) js) Q)∧(¬ (x=0∨2 ^ 64≤last+x∨y=0)→One (f (.bool false) s2) Q)) (fun R=>One R Q) ⟨fun hbad js j' e' he' hEj hgj=>?_,fun hgood=>?_⟩ fun f hf=>?_
        · rw [if_pos hbad] at heq
          have l2:loadD Try.prog js 26 (pt (s.n+2) 2)=some (I e'):=ldat a26 hgj rfl
          simp only [oO,bindS,many1,jnE,boolS,gdB,fst',snd',condT,nilr,fld176_2,l2]
          rw [hQ]
          exact One.ret ⟨hEj,.inr ⟨heq,e',he',rfl⟩⟩
        · rw [if_neg hgood] at heq
          have hx:x≠0:=fun h=>hgood (.inl h)
          have hlx:last+x<2 ^ 64:=Nat.not_le.1 fun h=>hgood (.inr (.inl h))
          have hy:y≠0:=fun h=>hgood (.inr (.inr h))
          have w1:IntKind.u64.wrap ((last:Int)+(x:Int))=((last+x:Nat):Int):=by rw [wrap_u64 (by omega) (by omega)]; rfl
          have hnew:∀ e∈(enL 0 L).map toEn,e.1≠((last+x:Nat):Int):=fun e he=>by
            obtain ⟨a,ha,rfl⟩:=List.mem_map.1 he
            have:=hLk _ (enL_mem 0 L a ha)
            show ((a.1:Nat):Int)≠_
            have:a.1≤last:=this
            omega
          rcases c113 (n:=n+1) (m:=m) hg2 (by omega) (by omega) hjb hb hy64 with ⟨l,j2,q,hr,hq,e113⟩ | ⟨e',j2,hr,he',e113⟩
          · rw [hr] at heq
            simp only [Option.bind_some] at heq
            obtain ⟨b1,b2,b3⟩:=rdS_ok y true j 0 l j2 hjb hr
            have hl0:l≠[]:=fun h=>by rw [h] at b2; exact hy b2.symm
            have hq:=hq hl0
            subst hq
            have hj2:=b1.le.2
            have e113:=oneS e113
            have gp3:TombAt (putD s2 (s.n+2) (.row (rdr (sl by' m b) j2 0))) (s.n+1) s.n:=by unfold TombAt; rw [get_put_other (by omega)]; exact hp2
            have gm3:HP.get (putD s2 (s.n+2) (.row (rdr (sl by' m b) j2 0))).h s.n=some (.map (((enL 0 L).map toEn).map ent) k):=by rw [get_put_other (by omega)]; exact hm2
            have gr3:HP.get (putD s2 (s.n+2) (.row (rdr (sl by' m b) j2 0))).h (s.n+2)=some (.row (rdr (sl by' m b) j2 0)):=get_put_same _
            have hE3:Ext s (putD s2 (s.n+2) (.row (rdr (sl by' m b) j2 0))):=hE2.put (by omega) _
            have hn3:s.n+3≤(putD s2 (s.n+2) (.row (rdr (sl by' m b) j2 0))).n:=hn2
            generalize putD s2 (s.n+2) (.row (rdr (sl by' m b) j2 0))=s3 at *
            have up:=upd_new gm3 hnew (sl rg 0 (l.map toRg))
            have hE4:=hE3.put (Nat.le_refl s.n) (.map (((enL 0 L).map toEn).map ent++[(.int .u64 ((last+x:Nat):Int),sl rg 0 (l.map toRg),k)]) (k+1))
            have gr4:HP.get (putD s3 s.n (.map (((enL 0 L).map toEn).map ent++[(.int .u64 ((last+x:Nat):Int),sl rg 0 (l.map toRg),k)]) (k+1))).h (s.n+2)=some (.row (rdr (sl by' m b) j2 0)):=by rw [get_put_other (by omega)]; exact gr3
            have l2:loadD Try.prog (putD s3 s.n (.map (((enL 0 L).map toEn).map ent++[(.int .u64 ((last+x:Nat):Int),sl rg 0 (l.map toRg),k)]) (k+1))) 26 (pt (s.n+2) 2)=some (I 0):=ldat a26 gr4 rfl
            have w7:IntKind.u64.wrap ((k:Int)+1)=((k+1:Nat):Int):=by rw [wrap_u64 (by omega) (by omega)]; rfl
            simp only [oO,bindS,many1,jnE,boolS,gdB,fst',snd',condF,bop_add,w1,nilp,fld158_0,ldTm hp2,ldTm gp3,e113,up,eqO_s,Bool.and_true,condT,nilr,fld176_2,l2,b_neq,decide_true,Bool.not_true,w7]
            refine hnx (b.length-j2) (_,_,_,_,_,_,_) _ (by have:=b1.le.1; omega) ⟨k+1,j2,last+x,L++[(last+x,l)],rfl,rfl,rfl,hkN,hlx,hj2,by rw [List.length_append,hLl]; rfl,fun e he=>?_,hE4,hn3,?_,?_,gr4,?_⟩
            · rcases List.mem_append.1 he with he | he
              · have:=hLk e he; omega
              · rw [List.mem_singleton] at he; subst he; exact Nat.le_refl _
            · unfold TombAt; rw [get_put_other (by omega)]; exact gp3
            · rw [get_put_same,enL_app,List.map_append,List.map_append,hLl,Nat.zero_add]; rfl
            · rw [heq,show N-(k+1)=N' from by omega]
              cases rdE b N' j2 (last+x) with
              | none=>rfl
              | some z=>simp
          · rw [hr] at heq
            simp only [Option.bind_none] at heq
            have e113:=oneS e113
            have gp3:TombAt (putD s2 (s.n+2) (.row (rdr (sl by' m b) j2 e'))) (s.n+1) s.n:=by unfold TombAt; rw [get_put_other (by omega)]; exact hp2
            have gm3:HP.get (putD s2 (s.n+2) (.row (rdr (sl by' m b) j2 e'))).h s.n=some (.map (((enL 0 L).map toEn).map ent) k):=by rw [get_put_other (by omega)]; exact hm2
            have gr3:HP.get (putD s2 (s.n+2) (.row (rdr (sl by' m b) j2 e'))).h (s.n+2)=some (.row (rdr (sl by' m b) j2 e')):=get_put_same _
            have hE3:Ext s (putD s2 (s.n+2) (.row (rdr (sl by' m b) j2 e'))):=hE2.put (by omega) _
            generalize putD s2 (s.n+2) (.row (rdr (sl by' m b) j2 e'))=s3 at *
            have up:=upd_new gm3 hnew (sl rg 2 [])
            have hE4:=hE3.put (Nat.le_refl s.n) (.map (((enL 0 L).map toEn).map ent++[(.int .u64 ((last+x:Nat):Int),sl rg 2 [],k)]) (k+1))
            have gr4:HP.get (putD s3 s.n (.map (((enL 0 L).map toEn).map ent++[(.int .u64 ((last+x:Nat):Int),sl rg 2 [],k)]) (k+1))).h (s.n+2)=some (.row (rdr (sl by' m b) j2 e')):=by rw [get_put_other (by omega)]; exact gr3
            have l2:loadD Try.prog (putD s3 s.n (.map (((enL 0 L).map toEn).map ent++[(.int .u64 ((last+x:Nat):Int),sl rg 2 [],k)]) (k+1))) 26 (pt (s.n+2) 2)=some (I e'):=ldat a26 gr4 rfl
            simp only [oO,bindS,many1,jnE,boolS,gdB,fst',snd',condF,bop_add,w1,nilp,fld158_0,ldTm hp2,ldTm gp3,e113,up,eqO_s,Bool.and_true,condT,nilr,fld176_2,l2,b_neq,he',decide_false,Bool.not_false]
            rw [hQ]
            exact One.ret ⟨hE4,.inr ⟨heq,e',he',rfl⟩⟩
        · have c1:=c112 (n:=n+4) (e:=0) true hg2
          rw [if_pos ⟨rfl,rfl⟩] at c1
          simp only [Bool.true_or] at c1
          have gb:HP.get (putD s2 (s.n+2) (.row (rdr (sl by' m b) j 210))).h (s.n+2)=some (.row (rdr (sl by' m b) j 210)):=get_put_same _
          have hEb:Ext s (putD s2 (s.n+2) (.row (rdr (sl by' m b) j 210))):=hE2.put (by omega) _
          have cF:=c112 (n:=n+4) (e:=0) false hg2
          rw [if_neg (by simp)] at cF
          simp only [decide_true,Bool.not_true,Bool.or_false] at cF
          by_cases b1:x=0
          · have gx:(x:Int)=0:=by omega
            simp only [oO,bindS,many1,jnE,boolS,gdB,fst',snd',bop_eql,gx,decide_true,condT,c1]
            exact hf.1 (.inl b1) _ _ _ (by decide) hEb gb
          · have gx:¬ (x:Int)=0:=by omega
            by_cases b2:2 ^ 64≤last+x
            · have w1:IntKind.u64.wrap ((last:Int)+(x:Int))=((last+x-2 ^ 64:Nat):Int):=by
                rw [wrap_us rfl]
                show ((last:Int)+(x:Int)) % 18446744073709551616=_
                omega
              have gy:((last+x-2 ^ 64:Nat):Int)<(last:Int):=by omega
              simp only [oO,bindS,many1,jnE,boolS,gdB,fst',snd',bop_eql,gx,decide_false,condF,bop_add,w1,bop_lss,gy,decide_true,condT,c1]
              exact hf.1 (.inr (.inl b2)) _ _ _ (by decide) hEb gb
            · have w1:IntKind.u64.wrap ((last:Int)+(x:Int))=((last+x:Nat):Int):=by rw [wrap_u64 (by omega) (by omega)]; rfl
              have gy:¬ ((last+x:Nat):Int)<(last:Int):=by omega
              by_cases b3:y=0
              · have gz:(y:Int)=0:=by omega
                simp only [oO,bindS,many1,jnE,boolS,gdB,fst',snd',bop_eql,gx,decide_false,condF,bop_add,w1,bop_lss,gy,gz,decide_true,c1]
                exact hf.1 (.inr (.inr b3)) _ _ _ (by decide) hEb gb
              · have gz:¬ (y:Int)=0:=by omega
                simp only [oO,bindS,many1,jnE,boolS,gdB,fst',snd',bop_eql,gx,decide_false,condF,bop_add,w1,bop_lss,gy,gz,cF]
                exact hf.2 (by
                  rintro (h | h | h)
                  · exact b1 h
                  · exact b2 h
                  · exact b3 h)
      · rw [h2] at heq
        have heq:rdE b N i1 0=none:=by rw [heq]; rfl
        have hE2:Ext s s2:=⟨Nat.le_trans hE.1 hB2.1,fun i hi=>by rw [hB2.2 i (by omega) (by omega)]; exact hE.2 i hi⟩
        have c1:=fun is=>c112 (n:=n+4) (e:=e) is hg2
        simp only [he,false_and,if_false,decide_false,Bool.not_false,Bool.or_true] at c1
        have l2:loadD Try.prog s2 26 (pt (s.n+2) 2)=some (I e):=ldat a26 hg2 rfl
        simp only [f62_l0,oO,bindS,many1,jnE,boolS,gdB,fst',snd',bop_lss,lt,decide_true,condT,e111,ext2,bop_eql,c1,nilr,fld176_2,l2]
        rw [hQ]
        exact One.ret ⟨hE2,.inr ⟨heq,e,he,rfl⟩⟩
    · have lt:¬ (k:Int)<(N:Int):=by omega
      have:k=N:=by omega
      subst this
      rw [Nat.sub_self] at heq
      have l1:loadD Try.prog s' 3 (pt (s.n+2) 1)=some (I (at_:Int)):=ldat a3 hg rfl
      simp only [f62_l0,oO,bindS,many1,jnE,boolS,gdB,fst',snd',bop_lss,lt,decide_false,condF,beq_yes,condT,nilr,fld176_1,l1]
      rw [hQ]
      exact One.ret ⟨hE,.inl ⟨L,at_,by rw [heq]; simp [rdE],rfl,by omega,hp,by rw [hLl]; exact hmap⟩⟩
  · have hread:readT b i=none:=by unfold readT; rw [if_neg h0]
    simp only [f62,oO,bindS,many1,jnE,boolS,gdB,fst',snd',e74,ext3,b_neq,h0,decide_false,Bool.not_false,condT]
    exact One.ret ⟨.refl s,.inr ⟨hread,_,h0,rfl⟩⟩
end Go.Proofs.Ytmhmbmogodofeaa.S
set_option autoImplicit false
set_option linter.unusedVariables false
set_option linter.unusedSimpArgs false
set_option maxRecDepth 100000
namespace Go.Proofs.Ytmhmbmogodofeaa.S
open Go.FS Go.RowKit
attribute [local congr] bind_cg cond_cg gd_cg
open Go.FS.Q
theorem inj_of_nodup {α β:Type} {f:α→β}:∀ {l:List α},(l.map f).Nodup→∀ e∈l,∀ g∈l,f g=f e→g=e
  | [],_,e,he,_,_,_=>by cases he
  | a :: l,h,e,he,g,hg,k=>by
    rw [List.map_cons,List.nodup_cons] at h
    rcases List.mem_cons.1 he with h1 | h1 <;> rcases List.mem_cons.1 hg with h2 | h2
    · rw [h1,h2]
    · exact (h.1 (List.mem_map.2 ⟨g,h2,by rw [k,h1]⟩)).elim
    · exact (h.1 (List.mem_map.2 ⟨e,h1,by rw [← k,h2]⟩)).elim
    · exact inj_of_nodup h.2 e h1 g h2 k
structure Good (E:List EL) (c B:Nat):Prop where
  keys:(E.map (·.1)).Nodup
  births:(E.map (·.2.2)).Nodup
  lt:∀ e∈E,e.2.2<c
  good:∀ e∈E,0<e.1∧e.1<2 ^ 64∧e.2.1≠[]∧SpOk true 0 e.2.1
  len:∀ e∈E,e.2.1.length≤B
theorem Good.ok {E:List EL} {c B:Nat} (h:Good E c B):MapOk (E.map toEN) c where
  lt:=fun e he=>by obtain ⟨a,ha,rfl⟩:=List.mem_map.1 he; exact h.lt a ha
  births:=fun e he f hf k=>by
    obtain ⟨a,ha,rfl⟩:=List.mem_map.1 he
    obtain ⟨b,hb,rfl⟩:=List.mem_map.1 hf
    rw [inj_of_nodup h.births a ha b hb k]
  keys:=by rw [List.map_map]; exact h.keys
theorem Good.tm {s:SH} {p m c B:Nat} {E:List EL} (h:Good E c B) (ht:TombAt s p m) (hm:HP.get s.h m=some (.map ((E.map toEn).map ent) c)) (hE:E.length≤1000) (hB:B≤1000):Tm s p m c E :=
  ⟨ht,hm,h.ok,hE,fun e he=>Nat.le_trans (h.len e he) hB,h.good⟩
theorem sp_cn:∀ (l:List (Nat×Nat)) (to:Nat),SpOk false to l→Cn 35184372088832 (to:Int) (l.map toRg)
  | [],_,_=>trivial
  | x :: l,to,⟨h1,h2,h3,h4,h5⟩=>by
    have:=h2 rfl
    have hMT:MT=35184372088832:=rfl
    exact ⟨by show (to:Int)+1<(x.1:Int); omega,by show (x.1:Int)≤(x.2:Int); omega,by show (x.2:Int)≤_; omega,sp_cn l x.2 h5⟩
theorem sp_cn0 (l:List (Nat×Nat)) (h:SpOk true 0 l):Cn 35184372088832 (-2) (l.map toRg):=by
  cases l with
  | nil=>trivial
  | cons x l =>
    obtain ⟨h1,h2,h3,h4,h5⟩:=h
    have hMT:MT=35184372088832:=rfl
    exact ⟨by show (-2:Int)+1<(x.1:Int); omega,by show (x.1:Int)≤(x.2:Int); omega,by show (x.2:Int)≤_; omega,sp_cn l x.2 h5⟩
theorem cn_sp:∀ (l:List Rg) (to:Nat),Cn 35184372088832 (to:Int) l→∃ n,l=n.map toRg∧SpOk false to n
  | [],_,_=>⟨[],rfl,trivial⟩
  | x :: l,to,⟨h1,h2,h3,h4⟩=>by
    have hMT:MT=35184372088832:=rfl
    have e2:((x.2.toNat:Nat):Int)=x.2:=by omega
    obtain ⟨n,rfl,hn⟩:=cn_sp l x.2.toNat (by rw [e2]; exact h4)
    refine ⟨(x.1.toNat,x.2.toNat) :: n,?_,by show to≤x.1.toNat; omega,fun _=>by show to+2≤x.1.toNat; omega,by show x.1.toNat≤x.2.toNat; omega,by show x.2.toNat≤MT; omega,hn⟩
    rw [List.map_cons]
    congr 1
    exact Prod.ext (by show x.1=((x.1.toNat:Nat):Int); omega) e2.symm
theorem cn_sp0 (l:List Rg) (h:Cn 35184372088832 (-2) l):∃ n,l=n.map toRg∧SpOk true 0 n:=by
  cases l with
  | nil=>exact ⟨[],rfl,trivial⟩
  | cons x l =>
    obtain ⟨h1,h2,h3,h4⟩:=h
    have hMT:MT=35184372088832:=rfl
    have e2:((x.2.toNat:Nat):Int)=x.2:=by omega
    obtain ⟨n,rfl,hn⟩:=cn_sp l x.2.toNat (by rw [e2]; exact h4)
    refine ⟨(x.1.toNat,x.2.toNat) :: n,?_,Nat.zero_le _,(fun h=>by cases h),by show x.1.toNat≤x.2.toNat; omega,by show x.2.toNat≤MT; omega,hn⟩
    rw [List.map_cons]
    congr 1
    exact Prod.ext (by show x.1=((x.1.toNat:Nat):Int); omega) e2.symm
theorem joinR_ne:∀ (l:List Rg) (x:Rg),joinR l x≠[]
  | [],x=>by unfold joinR; simp
  | y :: l,x=>by
    unfold joinR
    split
    · simp
    · split
      · simp
      · exact joinR_ne l _
def upL:List EL→Nat→Nat→List (Nat×Nat)→List EL×Nat
  | [],c,k,l=>([(k,l,c)],c+1)
  | e :: es,c,k,l=>if e.1=k then ((k,l,e.2.2) :: es,c) else (e :: (upL es c k l).1,(upL es c k l).2)
theorem upE_L:∀ (E:List EL) (c k:Nat) (l:List (Nat×Nat)),upE (E.map toEn) c (k:Int) (l.map toRg)=((upL E c k l).1.map toEn,(upL E c k l).2)
  | [],c,k,l=>rfl
  | e :: E,c,k,l=>by
    rw [List.map_cons]
    unfold upE upL
    by_cases h:e.1=k
    · rw [if_pos h,if_pos (show (toEn e).1=(k:Int) by show ((e.1:Nat):Int)=k; omega)]; rfl
    · rw [if_neg h,if_neg (show ¬ (toEn e).1=(k:Int) by show ¬ ((e.1:Nat):Int)=k; omega),upE_L E c k l]; rfl
theorem upL_new:∀ (E:List EL) (c k:Nat) (l:List (Nat×Nat)),k∉E.map (·.1)→upL E c k l=(E++[(k,l,c)],c+1)
  | [],c,k,l,_=>rfl
  | e :: E,c,k,l,h=>by
    rw [List.map_cons,List.mem_cons,not_or] at h
    unfold upL
    rw [if_neg fun hh=>h.1 hh.symm,upL_new E c k l h.2]; rfl
theorem upL_old:∀ (E:List EL) (c k:Nat) (l:List (Nat×Nat)),k∈E.map (·.1)→(upL E c k l).2=c∧(upL E c k l).1.map (·.1)=E.map (·.1)∧(upL E c k l).1.map (·.2.2)=E.map (·.2.2)∧(∀ e∈(upL E c k l).1,e∈E∨(e.1=k∧e.2.1=l))
  | [],c,k,l,h=>by cases h
  | e :: E,c,k,l,h=>by
    unfold upL
    by_cases hk:e.1=k
    · rw [if_pos hk]
      refine ⟨rfl,by rw [List.map_cons,List.map_cons,hk],rfl,fun x hx=>?_⟩
      rcases List.mem_cons.1 hx with rfl | hx
      · exact .inr ⟨rfl,rfl⟩
      · exact .inl (List.mem_cons_of_mem _ hx)
    · rw [if_neg hk]
      rw [List.map_cons,List.mem_cons] at h
      obtain ⟨h1,h2,h3,h4⟩:=upL_old E c k l (h.resolve_left fun hh=>hk hh.symm)
      refine ⟨h1,by rw [List.map_cons,List.map_cons,h2],by rw [List.map_cons,List.map_cons,h3],fun x hx=>?_⟩
      rcases List.mem_cons.1 hx with rfl | hx
      · exact .inl (List.mem_cons_self ..)
      · rcases h4 x hx with h5 | h5
        · exact .inl (List.mem_cons_of_mem _ h5)
        · exact .inr h5
theorem Good.up {E:List EL} {c B k:Nat} {l:List (Nat×Nat)} (h:Good E c B) (hk:0<k) (hk2:k<2 ^ 64) (hl:l≠[]) (hs:SpOk true 0 l) (hb:l.length≤B+1):Good (upL E c k l).1 (upL E c k l).2 (B+1)∧(upL E c k l).1.length≤E.length+1:=by
  by_cases hm:k∈E.map (·.1)
  · obtain ⟨h1,h2,h3,h4⟩:=upL_old E c k l hm
    refine ⟨⟨by rw [h2]; exact h.keys,by rw [h3]; exact h.births,fun e he=>?_,fun e he=>?_,fun e he=>?_⟩,?_⟩
    · rw [h1]
      have:e.2.2∈E.map (·.2.2):=by rw [← h3]; exact List.mem_map.2 ⟨e,he,rfl⟩
      obtain ⟨a,ha,hab⟩:=List.mem_map.1 this
      rw [← hab]; exact h.lt a ha
    · rcases h4 e he with h5 | ⟨h5,h6⟩
      · exact h.good e h5
      · rw [h5,h6]; exact ⟨hk,hk2,hl,hs⟩
    · rcases h4 e he with h5 | ⟨h5,h6⟩
      · exact Nat.le_succ_of_le (h.len e h5)
      · rw [h6]; exact hb
    · have:=congrArg List.length h2
      rw [List.length_map,List.length_map] at this
      omega
  · rw [upL_new E c k l hm]
    refine ⟨⟨?_,?_,fun e he=>?_,fun e he=>?_,fun e he=>?_⟩,by rw [List.length_append]; exact Nat.le_refl _⟩
    · rw [List.map_append,List.nodup_append]
      refine ⟨h.keys,by simp,fun a ha b hb=>?_⟩
      simp only [List.map_cons,List.map_nil,List.mem_singleton] at hb
      subst hb
      rintro rfl
      exact hm ha
    · rw [List.map_append,List.nodup_append]
      refine ⟨h.births,by simp,fun a ha b hb=>?_⟩
      simp only [List.map_cons,List.map_nil,List.mem_singleton] at hb
      subst hb
      obtain ⟨e,he,rfl⟩:=List.mem_map.1 ha
      have:=h.lt e he
      omega
    · rcases List.mem_append.1 he with he | he
      · have:=h.lt e he; omega
      · rw [List.mem_singleton] at he; subst he; exact Nat.lt_succ_self c
    · rcases List.mem_append.1 he with he | he
      · exact h.good e he
      · rw [List.mem_singleton] at he; subst he; exact ⟨hk,hk2,hl,hs⟩
    · rcases List.mem_append.1 he with he | he
      · exact Nat.le_succ_of_le (h.len e he)
      · rw [List.mem_singleton] at he; subst he; exact hb
theorem lkN_good {E:List EL} {c B:Nat} (h:Good E c B) (k:Nat):(lkN E k).length≤B∧SpOk true 0 (lkN E k):=by
  have:∀ E:List EL,(∀ e∈E,e.2.1.length≤B∧SpOk true 0 e.2.1)→(lkN E k).length≤B∧SpOk true 0 (lkN E k):=by
    intro E
    induction E with
    | nil=>intro _; exact ⟨Nat.zero_le _,trivial⟩
    | cons e E ih =>
      intro h
      unfold lkN
      split
      · exact h e (List.mem_cons_self ..)
      · exact ih fun x hx=>h x (List.mem_cons_of_mem _ hx)
  exact this E fun e he=>⟨h.len e he,(h.good e he).2.2.2⟩
theorem Good.one {E:List EL} {c B:Nat} {k:Int} {r:Rg} (h:Good E c B) (hk:0<k) (hk2:k<2 ^ 64) (hr:rightR r [5]=true) :
    ∃ E' c',upE (E.map toEn) c k (joinF (lk (E.map toEn) k) r)=(E'.map toEn,c')∧Good E' c' (B+1)∧E'.length≤E.length+1:=by
  obtain ⟨n,rfl⟩:∃ n:Nat,k=(n:Int):=⟨k.toNat,by omega⟩
  obtain ⟨h1,h2⟩:=lkN_good h n
  have hcn:=sp_cn0 _ h2
  obtain ⟨r0,r1,r2⟩:=(right5 r).1 hr
  rw [lk_N,joinF_R hcn hr]
  have hl:=joinF_len ((lkN E n).map toRg) r
  rw [joinF_R hcn hr,List.length_map] at hl
  obtain ⟨l,e,hs⟩:=cn_sp0 _ (joinR_cn _ (-2) r hcn (by omega) r1 r2)
  have hne:=joinR_ne ((lkN E n).map toRg) r
  rw [e] at hl hne ⊢
  rw [List.length_map] at hl
  obtain ⟨k1,k2⟩:=h.up (k:=n) (l:=l) (by omega) (by omega) (fun hh=>hne (by rw [hh]; rfl)) hs (by omega)
  exact ⟨_,_,upE_L E c n l,k1,k2⟩
theorem rises_pos:∀ (l:List Int) (last:Int),0≤last→rises last l=true→∀ x∈l,0<x
  | [],_,_,_,x,hx=>by cases hx
  | a :: l,last,h0,h,x,hx=>by
    unfold rises at h
    rw [Bool.and_eq_true] at h
    have h1:=of_decide_eq_true h.1
    rcases List.mem_cons.1 hx with rfl | hx
    · omega
    · exact rises_pos l a (by omega) h.2 x hx
theorem Good.add {r:Rg} (hr:rightR r [5]=true):∀ (ids:List Int) {E:List EL} {c B:Nat},Good E c B→(∀ k∈ids,0<k∧k<2 ^ 64) →
    ∃ E' c',addE (E.map toEn) c r ids=(E'.map toEn,c')∧Good E' c' (B+ids.length)∧E'.length≤E.length+ids.length
  | [],E,c,B,h,_=>⟨E,c,rfl,h,Nat.le_refl _⟩
  | k :: ids,E,c,B,h,hk=>by
    obtain ⟨k1,k2⟩:=hk k (List.mem_cons_self ..)
    obtain ⟨E1,c1,e1,h1,l1⟩:=h.one k1 k2 hr
    obtain ⟨E2,c2,e2,h2,l2⟩:=Good.add hr ids h1 fun x hx=>hk x (List.mem_cons_of_mem _ hx)
    refine ⟨E2,c2,?_,by rw [List.length_cons,Nat.add_comm ids.length 1,← Nat.add_assoc]; exact h2,by rw [List.length_cons]; omega⟩
    have:addE (E.map toEn) c r (k :: ids)=addE (upE (E.map toEn) c k (joinF (lk (E.map toEn) k) r)).1 (upE (E.map toEn) c k (joinF (lk (E.map toEn) k) r)).2 r ids:=rfl
    rw [this,e1]
    exact e2
theorem enOk_mem:∀ {L:LT} {last:Nat},EnOk last L→∀ e∈L,last<e.1∧e.1<2 ^ 64∧e.2≠[]∧SpOk true 0 e.2
  | [],_,_,e,he=>by cases he
  | a :: L,last,⟨h1,h2,h3,h3',h4,h5⟩,e,he=>by
    rcases List.mem_cons.1 he with rfl | he
    · exact ⟨h1,h2,h3,h4⟩
    · have:=enOk_mem h5 e he; exact ⟨by omega,this.2⟩
theorem enL_keys:∀ (c:Nat) (L:LT),(enL c L).map (·.1)=L.map (·.1)
  | _,[]=>rfl
  | c,e :: L=>by show e.1 :: (enL (c+1) L).map (·.1)=_; rw [enL_keys (c+1) L]; rfl
theorem enL_len:∀ (c:Nat) (L:LT),(enL c L).length=L.length
  | _,[]=>rfl
  | c,e :: L=>by show (enL (c+1) L).length+1=_; rw [enL_len (c+1) L]; rfl
theorem enL_born:∀ (c:Nat) (L:LT),∀ e∈enL c L,c≤e.2.2∧e.2.2<c+L.length
  | _,[],e,he=>by cases he
  | c,a :: L,e,he=>by
    rcases List.mem_cons.1 he with rfl | he
    · exact ⟨Nat.le_refl _,by rw [List.length_cons]; show c<_; omega⟩
    · have:=enL_born (c+1) L e he; rw [List.length_cons]; omega
theorem enL_nodup:∀ (c:Nat) (L:LT),((enL c L).map (·.2.2)).Nodup
  | _,[]=>List.nodup_nil
  | c,a :: L=>by
    show (c :: (enL (c+1) L).map (·.2.2)).Nodup
    rw [List.nodup_cons]
    refine ⟨fun h=>?_,enL_nodup (c+1) L⟩
    obtain ⟨e,he,h2⟩:=List.mem_map.1 h
    have:=enL_born (c+1) L e he
    omega
theorem enOk_sorted:∀ {L:LT} {last:Nat},EnOk last L→(L.map (·.1)).Pairwise (·<·)
  | [],_,_=>.nil
  | a :: L,last,⟨h1,h2,h3,h3',h4,h5⟩=>by
    rw [List.map_cons,List.pairwise_cons]
    refine ⟨fun k hk=>?_,enOk_sorted h5⟩
    obtain ⟨e,he,rfl⟩:=List.mem_map.1 hk
    exact (enOk_mem h5 e he).1
theorem enL_good {L:LT} (h:EnOk 0 L) {B:Nat} (hB:∀ e∈L,e.2.length≤B):Good (enL 0 L) L.length B where
  keys:=by rw [enL_keys]; exact (enOk_sorted h).imp fun h=>Nat.ne_of_lt h
  births:=enL_nodup 0 L
  lt:=fun e he=>by have:=(enL_born 0 L e he).2; omega
  good:=fun e he=>by have:=enOk_mem h _ (enL_mem 0 L e he); exact this
  len:=fun e he=>hB _ (enL_mem 0 L e he)
theorem lkN_enL:∀ (c:Nat) (L:LT),(L.map (·.1)).Pairwise (·<·)→L.map (fun e=>(e.1,lkN (enL c L) e.1))=L
  | _,[],_=>rfl
  | c,a :: L,h=>by
    rw [List.map_cons,List.pairwise_cons] at h
    rw [List.map_cons]
    have e1:lkN (enL c (a :: L)) a.1=a.2:=by
      show (if a.1=a.1 then a.2 else _)=_
      rw [if_pos rfl]
    rw [e1]
    congr 1
    have e2:L.map (fun e=>(e.1,lkN (enL c (a :: L)) e.1))=L.map (fun e=>(e.1,lkN (enL (c+1) L) e.1)):=by
      refine List.map_congr_left fun e he=>?_
      have:=h.1 e.1 (List.mem_map.2 ⟨e,he,rfl⟩)
      show (e.1,if a.1=e.1 then a.2 else lkN (enL (c+1) L) e.1)=_
      rw [if_neg (by omega)]
    rw [e2]
    exact lkN_enL (c+1) L h.2
theorem listOf_enL {L:LT} (h:EnOk 0 L):listOf (enL 0 L)=L:=by
  unfold listOf
  have hk:keysOf ((enL 0 L).map toEN)=L.map (·.1):=by
    have e1:((enL 0 L).map toEN).map (·.1)=L.map (·.1):=by rw [List.map_map]; exact enL_keys 0 L
    refine perm_sorted ((keysOf_perm _).trans (by rw [e1])) (keysOf_sorted _) ((enOk_sorted h).imp fun h=>Nat.le_of_lt h)
  rw [hk,List.map_map]
  exact lkN_enL 0 L (enOk_sorted h)
theorem listOf_ok {E:List EL} {c B:Nat} (h:Good E c B) (hB:B<2 ^ 64):EnOk 0 (listOf E):=by
  have hs:=keysOf_sorted (E.map toEN)
  have hp:=keysOf_perm (E.map toEN)
  have hk:∀ k∈keysOf (E.map toEN),∃ e∈E,e.1=k:=fun k hk=>by
    have:=hp.mem_iff.1 hk
    rw [List.map_map] at this
    obtain ⟨e,he,rfl⟩:=List.mem_map.1 this
    exact ⟨e,he,rfl⟩
  have hnd:(keysOf (E.map toEN)).Nodup:=hp.nodup_iff.2 h.ok.keys
  have hne:∀ e∈E,lkN E e.1≠[]:=by
    intro e he
    have:∀ E:List EL,(∀ f∈E,f.2.1≠[])→e∈E→lkN E e.1≠[]:=by
      intro E
      induction E with
      | nil=>intro _ h; cases h
      | cons a E ih =>
        intro h1 h2
        unfold lkN
        split
        · exact h1 a (List.mem_cons_self ..)
        · next hh =>
          rcases List.mem_cons.1 h2 with rfl | h2
          · exact absurd rfl hh
          · exact ih (fun f hf=>h1 f (List.mem_cons_of_mem _ hf)) h2
    exact this E (fun f hf=>(h.good f hf).2.2.1) he
  unfold listOf
  have:∀ (ks:List Nat) (last:Nat),ks.Pairwise (·≤·)→ks.Nodup→(∀ k∈ks,last<k∧∃ e∈E,e.1=k)→EnOk last (ks.map fun k=>(k,lkN E k)):=by
    intro ks
    induction ks with
    | nil=>intro _ _ _ _; exact trivial
    | cons k ks ih =>
      intro last h1 h2 h3
      rw [List.pairwise_cons] at h1
      rw [List.nodup_cons] at h2
      obtain ⟨g1,e,he,rfl⟩:=h3 k (List.mem_cons_self ..)
      refine ⟨g1,(h.good e he).2.1,hne e he,by have:=(lkN_good h e.1).1; show (lkN E e.1).length<_; omega,(lkN_good h e.1).2,ih e.1 h1.2 h2.2 fun k' hk'=>⟨?_,(h3 k' (List.mem_cons_of_mem _ hk')).2⟩⟩
      have:=h1.1 k' hk'
      have:e.1≠k':=fun hh=>h2.1 (by rw [hh]; exact hk')
      omega
  exact this _ 0 hs hnd fun k hk'=>by obtain ⟨e,he,h1⟩:=hk k hk'; exact ⟨by rw [← h1]; exact (h.good e he).1,e,he,h1⟩
theorem spB_len:∀ (l:List (Nat×Nat)) (to:Nat),l.length≤(spB to l).length
  | [],_=>Nat.le_refl _
  | x :: l,to=>by
    unfold spB
    have:=spB_len l x.2
    have:=vput_pos (x.1-to)
    simp only [List.length_append,List.length_cons]; omega
theorem enB_len:∀ (L:LT) (last:Nat),L.length≤(enB last L).length∧∀ e∈L,e.2.length≤(enB last L).length
  | [],_=>⟨Nat.le_refl _,fun e he=>by cases he⟩
  | x :: L,last=>by
    unfold enB
    obtain ⟨h1,h2⟩:=enB_len L x.1
    have:=vput_pos (x.1-last)
    have h3:=spB_len x.2 0
    refine ⟨by simp only [List.length_append,List.length_cons]; omega,fun e he=>?_⟩
    simp only [List.length_append]
    rcases List.mem_cons.1 he with rfl | he
    · omega
    · have:=h2 e he; omega
end Go.Proofs.Ytmhmbmogodofeaa.S
set_option autoImplicit false
set_option linter.unusedVariables false
set_option linter.unusedSimpArgs false
set_option maxRecDepth 100000
namespace Go.Proofs.Ytmhmbmogodofeaa.S
open Go.FS Go.RowKit
attribute [local congr] bind_cg cond_cg gd_cg
open Go.FS.Q
theorem bytesOf_by (bs:List UInt8):bytesOf (bs.map by').flatten=some bs:=by
  induction bs with
  | nil=>rfl
  | cons b bs ih =>
    show (bytesOf (bs.map by').flatten).map (fun r=>UInt8.ofNat (Int.toNat (b.toNat:Int)) :: r)=_
    rw [ih,Int.toNat_natCast,UInt8.ofNat_toNat]; rfl
theorem aggL_fz {α:Type} (enc:α→List Value) (xs:List α):aggL ((xs.map enc).map fun e=>Value.agg e.toArray)=some (xs.map enc).flatten:=by
  induction xs with
  | nil=>rfl
  | cons x xs ih =>
    show (aggL ((xs.map enc).map fun e=>Value.agg e.toArray)).map ((enc x).toArray.toList++·)=_
    rw [ih]; simp
theorem conv_bs (s:SH) (m:Nat) (bs:List UInt8):convertD Try.prog false s 35 9 (sl by' m bs)=some (.string ⟨bs.toArray⟩,s):=by
  have hf:fzOk 1 ((bs.map by').map fun e=>Value.agg e.toArray).toArray=true:=fzOk_fz fun e he=>by obtain ⟨x,_,rfl⟩:=List.mem_map.1 he; rfl
  have hc:cellsD s 1 ((bs.map by').map fun e=>Value.agg e.toArray).toArray.size (.iface m (.tuple ((bs.map by').map fun e=>Value.agg e.toArray).toArray))=some (bs.map by').flatten:=by
    simp only [cellsD,hf,Nat.ble_eq_true_of_le (Nat.le_refl _),Bool.and_self,condT]
    have:((bs.map by').map fun e=>Value.agg e.toArray).toArray.toList.take ((bs.map by').map fun e=>Value.agg e.toArray).toArray.size=(bs.map by').map fun e=>Value.agg e.toArray:=by
      rw [List.take_of_length_le (by simp)]
    rw [this,aggL_fz]
  unfold sl fz fzV
  simp only [convertD,u9,u35,u5]
  rw [hc,bindS,bytesOf_by]; rfl
theorem c26 {n m m':Nat} {s:SH} (a:List UInt8):callD Try.prog AT (n+1) (.fn 26) [sl by' m a,sl by' m' a] s=some [(.bool true,s)]:=by
  refine cut_call (fn:=Try.f26) rfl rfl (by kernel_rfl) (v:=.bool true) (fun _ h=>by cases h) (.bool _) ?_
  show One (bodyD Try.prog false _ _ 26 Try.f26 _ s) _
  rw [f26_r]
  have e:bopD Try.prog .eql 9 (.string ⟨a.toArray⟩) (.string ⟨a.toArray⟩)=some (.bool ((⟨a.toArray⟩:ByteArray).toList == (⟨a.toArray⟩:ByteArray).toList)):=rfl
  simp only [f26,oO,bindS,many1,jnE,boolS,gdB,fst',snd',conv_bs,e,beq_self_eq_true]
  exact One.ret ⟨rfl,.refl s⟩
theorem b_peq {t e:TypeId} (hu:(Try.prog).underlying t=some (.pointer e)) (a:Addr):bopD Try.prog .eql t (.pointer (some a)) (.pointer none)=some (.bool false):=by
  simp only [bopD,binD,nilD,hu,nilEq]; rfl
theorem b_nil:bopD Try.prog .eql 81 (.pointer none) (.pointer none)=some (.bool true):=by kernel_rfl
theorem spB_max:∀ (l:List (Nat×Nat)) (first:Bool) (to:Nat),SpOk first to l→(spB to l).length≤20*l.length
  | [],_,_,_=>Nat.le_refl _
  | x :: l,first,to,⟨h1,h2,h3,h4,h5⟩=>by
    unfold spB
    have hMT:MT=35184372088832:=rfl
    have:=spB_max l false x.2 h5
    have:=vput_len10 (x:=x.1-to) (by omega)
    have:=vput_len10 (x:=x.2-x.1) (by omega)
    simp only [List.length_append,List.length_cons]; omega
theorem enB_max:∀ (L:LT) (last:Nat),EnOk last L→(∀ e∈L,e.2.length≤1000)→(enB last L).length≤20020*L.length
  | [],_,_,_=>Nat.le_refl _
  | x :: L,last,⟨h1,h2,h3,h3',h4,h5⟩,hl=>by
    unfold enB
    have:=enB_max L x.1 h5 fun e he=>hl e (List.mem_cons_of_mem _ he)
    have:=spB_max x.2 true 0 h4
    have:=hl x (List.mem_cons_self ..)
    have:=vput_len10 (x:=x.1-last) (by omega)
    have:=vput_len10 (x:=x.2.length) h3'
    simp only [List.length_append,List.length_cons]; omega
theorem c45 {n:Nat} {s:SH}:callD Try.prog AT (n+1) (.fn 45) [] s=some [(.bool true,s)]:=by
  rw [call_i (i:=yes) rfl]; rfl
abbrev Ac:=Int×Rg×List Int×Int
def act (a:Ac):List Value:=[.int .i64 a.1,.int .i64 a.2.1.1,.int .i64 a.2.1.2,sl u6 0 a.2.2.1,.int .u64 a.2.2.2]
theorem act_len (a:Ac):(act a).length=5:=rfl
theorem right_of {r:Rg} {ids:List Int} (h:rightR r ids=true):rightR r [5]=true∧rises 0 ids=true:=by
  unfold rightR at h
  rw [Bool.and_eq_true] at h
  refine ⟨?_,h.1⟩
  unfold rightR
  rw [show rises 0 [5]=true from by decide,Bool.true_and]; exact h.2
theorem run16 {n:Nat} {s:SH} (acts:List Ac) (b:List UInt8) (hids:∀ a∈acts,∀ k∈a.2.2.1,0≤k∧k<2 ^ 64) :
    ∃ s',callD Try.prog AT (n+1001) (.fn 16) [sl act 0 acts,sl by' 0 b] s=some [(.bool true,s')]:=by
  suffices hh:One (bodyD Try.prog (AT.row 16) (callD Try.prog AT (n+1000)) AT.N 16 Try.f16 [sl act 0 acts,sl by' 0 b] s) fun v s'=>v=.bool true by
    obtain ⟨v,s',e,rfl⟩:=hh
    exact ⟨s',by rw [call_fn (fn:=Try.f16) rfl rfl (by kernel_rfl)]; exact e⟩
  have hbd:bodyD Try.prog (AT.row 16) (callD Try.prog AT (n+1000)) AT.N 16 Try.f16 [sl act 0 acts,sl by' 0 b] s=f16 (dOps Try.prog) (callD Try.prog AT (n+1000)) (2 ^ 64) (sl act 0 acts) (sl by' 0 b) s:=f16_r _ _ _ _ _
  rw [hbd]
  have e45:=c45 (n:=n+999) (s:=s)
  have e46:=c46 (n:=n+999) (s:=s)
  simp only [f16,oO,bindS,many1,jnE,boolS,gdB,fst',snd',e45,uop_not,Bool.not_true,condF,e46]
  have hx1:HP.get (newD (newD s (.map [] 0)) (.row [.map (some s.n)])).h s.n=some (.map [] 0):=by rw [get_old (by simp only [newD_n]; omega)]; exact get_n0 s _
  have hx2:TombAt (newD (newD s (.map [] 0)) (.row [.map (some s.n)])) (s.n+1) s.n:=get_new (by rw [newD_n])
  have hx4:(newD (newD s (.map [] 0)) (.row [.map (some s.n)])).n=s.n+2:=by simp only [newD_n]
  generalize newD (newD s (.map [] 0)) (.row [.map (some s.n)])=s1 at *
  generalize s.n=m at *
  have hlen88:∀ s':SH,lenOfD Try.prog s' 88 (sl act 0 acts)=some (I (acts.length:Int)):=fun s'=>len_sl u88
  have htk:(acts.take 20).length=min 20 acts.length:=List.length_take
  refine list_one (acts.take 20) (fun i (x:Value) (s':SH)=>x=I (i:Int)∧∃ E c B,Good E c B∧TombAt s' (m+1) m∧HP.get s'.h m=some (.map ((E.map toEn).map ent) c)∧E.length≤6*i∧B≤6*i∧m+2≤s'.n) ?_ ?_ ⟨rfl,[],0,0,⟨List.nodup_nil,List.nodup_nil,(fun e he=>by cases he),(fun e he=>by cases he),(fun e he=>by cases he)⟩,hx2,hx1,Nat.le_refl _,Nat.le_refl _,by omega⟩ (by omega)
  · rintro i hi x s' ⟨rfl,E,c,B,hG,ht,hm,hE,hB,hn⟩ nx hnx
    have hi2:i<acts.length:=by omega
    have hi20:i<20:=by omega
    have lt1:(i:Int)<(acts.length:Int):=by omega
    have lt2:(i:Int)<20:=by omega
    have ix:indexAddrD Try.prog 88 (sl act 0 acts) (I (i:Int))=some (fpV (act acts[i]).toArray 0):=ixs88 act_len hi2
    have hidi:=hids acts[i] (List.getElem_mem hi2)
    generalize acts[i]=a at *
    have ld1:loadD Try.prog s' 69 (fpV (act a).toArray 1)=some (.agg (rg a.2.1).toArray):=by rw [load_fp,part_agg a69 z69 (l:=rg a.2.1) rfl rfl]
    have ld2:loadD Try.prog s' 67 (fpV (act a).toArray 3)=some (sl u6 0 a.2.2.1):=by rw [load_fp,part_one a67]; rfl
    have hl:lenOfD Try.prog s' 67 (sl u6 0 a.2.2.1)=some (I (a.2.2.1.length:Int)):=len_sl u67
    have mn:minD Try.prog (I (a.2.2.1.length:Int)) [I 6]=some (I ((min a.2.2.1.length 6:Nat):Int)):=min_nat .i64 _ 6
    have sc:slcD Try.prog s' 67 (sl u6 0 a.2.2.1) none (some (I ((min a.2.2.1.length 6:Nat):Int))) none=some (sl u6 (bif Nat.beq 0 2 then 2 else 0) (a.2.2.1.take (min a.2.2.1.length 6))):=slc_sl u67 z70 u6_len (Nat.min_le_left _ _)
    have hil:(a.2.2.1.take (min a.2.2.1.length 6)).length≤6:=by rw [List.length_take]; omega
    have hidt:∀ k∈a.2.2.1.take (min a.2.2.1.length 6),0≤k∧k<2 ^ 64:=fun k hk=>hidi k (List.mem_of_mem_take hk)
    generalize a.2.2.1.take (min a.2.2.1.length 6)=ids at *
    have hmost:most (E.map toEn) B:=fun e he=>by
      obtain ⟨x,hx,rfl⟩:=List.mem_map.1 he
      show (x.2.1.map toRg).length≤B
      rw [List.length_map]; exact hG.len x hx
    have e47:=oneS (c47 (n:=n+997) (mm:=bif Nat.beq 0 2 then 2 else 0) ht hm (by omega) (by omega) a.2.1 ids hmost (by omega))
    have w:IntKind.i64.wrap ((i:Int)+1)=((i+1:Nat):Int):=by rw [wrap_i64 (by omega) (by omega)]; rfl
    simp only [f16_l0,oO,bindS,many1,jnE,boolS,gdB,fst',snd',hlen88,bop_lss,lt1,lt2,decide_true,condT,ix,flf95_1,flf95_2,ld1,ld2,hl,mn,sc,e47,bop_add,w]
    by_cases hr:rightR a.2.1 ids=true
    · rw [if_pos hr]
      obtain ⟨r1,r2⟩:=right_of hr
      obtain ⟨E',c',e,hG',hl'⟩:=hG.add r1 ids fun k hk=>⟨rises_pos ids 0 (Int.le_refl _) r2 k hk,(hidt k hk).2⟩
      rw [e]
      exact hnx _ _ ⟨rfl,E',c',_,hG',by unfold TombAt; rw [get_put_other (by omega)]; exact ht,get_put_same _,by omega,by omega,hn⟩
    · rw [if_neg hr]
      exact hnx _ _ ⟨rfl,E,c,B,hG,ht,hm,by omega,by omega,hn⟩
  · rintro x s' ⟨rfl,E,c,B,hG,ht,hm,hE,hB,hn⟩ nx
    rw [htk] at hE hB ⊢
    have hT:Tm s' (m+1) m c E:=hG.tm ht hm (by omega) (by omega)
    obtain ⟨q,hq,e61⟩:=c61 (n:=n+999) hT (by omega) (by omega) (by omega)
    have hok:=listOf_ok hG (by omega)
    have hll:(listOf E).length=E.length:=by unfold listOf; rw [List.length_map,keys_len]
    have hlens:∀ e∈listOf E,e.2.length≤1000:=fun e he=>by
      unfold listOf at he
      obtain ⟨k,_,rfl⟩:=List.mem_map.1 he
      exact Nat.le_trans (lkN_good hG k).1 (by omega)
    have hrd:=readT_at hok (by omega)
    have hbl:(allB (listOf E)).length≤2 ^ 40:=by
      have h1:=enB_max _ 0 hok hlens
      have h2:=vput_len10 (x:=(listOf E).length) (by omega)
      unfold allB
      rw [List.length_append]; omega
    obtain ⟨L,j,s2,hr,e62,hE2,hn2,ht2,hm2⟩:=(c62 (n:=n+994) (m:=q) (i:=0) (b:=allB (listOf E)) (s:=s') (Nat.zero_le _) hbl (by omega)).resolve_right fun h=>by rw [hrd] at h; cases h.1
    rw [hrd] at hr
    injection hr with hr
    injection hr with hr1 hr2
    subst hr1 hr2
    have e62:callD Try.prog AT (n+1000) (.fn 62) [sl by' q (allB (listOf E)),I 0] s'=some [(.tuple #[pt (s'.n+1) 0,I ((allB (listOf E)).length:Int),I 0],s2)]:=e62
    have hT2:Tm s2 (s'.n+1) s'.n (listOf E).length (enL 0 (listOf E)):=(enL_good hok hlens).tm ht2 hm2 (by rw [enL_len]; omega) (Nat.le_refl _)
    obtain ⟨q2,hq2,e61b⟩:=c61 (n:=n+999) hT2 (by omega) (by omega) (by rw [enL_len]; omega)
    rw [listOf_enL hok] at e61b
    have e26:=c26 (n:=n+999) (m:=q2) (m':=q) (s:=s2) (allB (listOf E))
    have hl35:lenOfD Try.prog s2 35 (sl by' q (allB (listOf E)))=some (I ((allB (listOf E)).length:Int)):=len_sl u35
    have hlb:lenOfD Try.prog s2 35 (sl by' 0 b)=some (I (b.length:Int)):=len_sl u35
    have mn:minD Try.prog (I (b.length:Int)) [I 300]=some (I ((min b.length 300:Nat):Int)):=min_nat .i64 _ 300
    have sc:slcD Try.prog s2 35 (sl by' 0 b) none (some (I ((min b.length 300:Nat):Int))) none=some (sl by' (bif Nat.beq 0 2 then 2 else 0) (b.take (min b.length 300))):=slc_sl u35 z5 by_len (Nat.min_le_left _ _)
    have hbl2:(b.take (min b.length 300)).length≤300:=by rw [List.length_take]; omega
    generalize b.take (min b.length 300)=b' at *
    simp only [f16_l0,oO,bindS,many1,boolS,gdB,fst',snd']
    refine jn_rule2 (fun f=>One (f (.bool false)) fun v s'=>v=.bool true) (fun R=>One R fun v s'=>v=.bool true) ?_ fun f hf=>?_
    · simp only [oO,bindS,many1,jnE,boolS,gdB,fst',snd',condF,beq_yes,condT,e61,e62,ext3,b_neq,decide_true,Bool.not_true,hl35,b_peq u81,e61b,e26,uop_not,hlb,mn,sc]
      rcases c62 (n:=n+994) (m:=bif Nat.beq 0 2 then 2 else 0) (i:=0) (b:=b') (s:=s2) (Nat.zero_le _) (by omega) (by show 0<_; omega) with ⟨L,j,s3,hr,e62b,hE3,hn3,ht3,hm3⟩ | ⟨hr,e,s3,he,e62b,hE3⟩
      · obtain ⟨k1,k2,k3⟩:=readT_ok hr
        have e62b:callD Try.prog AT (n+1000) (.fn 62) [sl by' (bif Nat.beq 0 2 then 2 else 0) b',I 0] s2=some [(.tuple #[pt (s2.n+1) 0,I (j:Int),I 0],s3)]:=e62b
        have hL:L.length≤300∧∀ e∈L,e.2.length≤300:=by
          have h1:=enB_len L 0
          have h2:(allB L).length≤300:=by rw [← k1,List.length_take]; omega
          unfold allB at h2
          rw [List.length_append] at h2
          exact ⟨by omega,fun e he=>by have:=h1.2 e he; omega⟩
        have hT3:Tm s3 (s2.n+1) s2.n L.length (enL 0 L):=(enL_good k3 hL.2).tm ht3 hm3 (by rw [enL_len]; omega) (by omega)
        obtain ⟨q3,hq3,e61c⟩:=c61 (n:=n+999) hT3 (by omega) (by omega) (by rw [enL_len]; omega)
        rw [listOf_enL k3] at e61c
        have hlb':lenOfD Try.prog s3 35 (sl by' (bif Nat.beq 0 2 then 2 else 0) b')=some (I (b'.length:Int)):=len_sl u35
        have le:(j:Int)≤(b'.length:Int):=by omega
        have sc2:slcD Try.prog s3 35 (sl by' (bif Nat.beq 0 2 then 2 else 0) b') none (some (I (j:Int))) none=some (sl by' (bif Nat.beq (bif Nat.beq 0 2 then 2 else 0) 2 then 2 else 0) (b'.take j)):=slc_sl u35 z5 by_len k2
        rw [k1] at sc2
        have e26b:=c26 (n:=n+999) (m:=q3) (m':=bif Nat.beq (bif Nat.beq 0 2 then 2 else 0) 2 then 2 else 0) (s:=s3) (allB L)
        have e61c:=oneS e61c
        have e26b:=oneS e26b
        simp only [e62b,oO,bindS,many1,jnE,boolS,gdB,fst',snd',ext3,b_neq,decide_true,Bool.not_true,condF,bop_eql,condT,b_pne u81,hlb',bop_leq,le,e61c,sc2,e26b]
        exact One.ret rfl
      · have e62b:callD Try.prog AT (n+1000) (.fn 62) [sl by' (bif Nat.beq 0 2 then 2 else 0) b',I 0] s2=some [(.tuple #[.pointer none,I 0,I e],s3)]:=e62b
        simp only [e62b,oO,bindS,many1,jnE,boolS,gdB,fst',snd',ext3,b_neq,he,decide_false,Bool.not_false,condT,b_nil,bop_eql,decide_true]
        exact One.ret rfl
    · by_cases h1:((min 20 acts.length:Nat):Int)<(acts.length:Int)
      · have h2:¬ ((min 20 acts.length:Nat):Int)<20:=by omega
        simp only [oO,bindS,many1,jnE,boolS,gdB,fst',snd',hlen88,bop_lss,h1,h2,decide_true,decide_false,condT]
        exact hf
      · simp only [oO,bindS,many1,jnE,boolS,gdB,fst',snd',hlen88,bop_lss,h1,decide_false,condF]
        exact hf
end Go.Proofs.Ytmhmbmogodofeaa.S
