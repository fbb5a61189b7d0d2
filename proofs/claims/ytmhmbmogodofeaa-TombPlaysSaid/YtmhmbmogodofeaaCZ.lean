import Derived.Test.YtmhmbmogodofeaaCY
import Derived.Test.YtmhmbmogodofeaaS15
set_option linter.unusedVariables false
set_option linter.unusedSimpArgs false
set_option maxRecDepth 100000
namespace Go.Proofs.Ytmhmbmogodofeaa.S
open Go.FS Go.RowKit
open Go.Proofs.Try (prog)
attribute [local congr] bind_cg cond_cg gd_cg
open Go.FS.Q
structure Both (s:SH) (p m q c B:Nat) (E R:List EL):Prop where
 at_:TombAt s p m
 map:HP.get s.h m=some (.map ((E.map toEn).map ent) c)
 good:Good E c B
 el:E.length≤600
 bl:B≤600
 ref:RefAt s q R
 rel:Rel E R
 pn:p<s.n
 mn:m<s.n
 qn:q<s.n
theorem Both.ext {s s':SH} {p m q c B:Nat} {E R:List EL} (h:Both s p m q c B E R) (k:Ext s s'):Both s' p m q c B E R :=
 ⟨by have:=h.at_; unfold TombAt at this ⊢; rw [k.2 p h.pn]; exact this,by rw [k.2 m h.mn]; exact h.map,h.good,h.el,h.bl,h.ref.but (k.2 q h.qn),h.rel,Nat.lt_of_lt_of_le h.pn k.1,Nat.lt_of_lt_of_le h.mn k.1,Nat.lt_of_lt_of_le h.qn k.1⟩
theorem Both.tm {s:SH} {p m q c B:Nat} {E R:List EL} (h:Both s p m q c B E R):Tm s p m c E:=h.good.tm h.at_ h.map (by have:=h.el; omega) (by have:=h.bl; omega)
theorem lk_small {E:List EL} {c B:Nat} (h:Good E c B) (hB:B≤600) (k:Nat):(lkN E k).length≤600:=Nat.le_trans (lkN_good h k).1 hB
theorem c55 {n p m q c B:Nat} {s:SH} {E R:List EL} (h:Both s p m q c B E R):callD prog AT (n+1001) (.fn 55) [pt p 0,pt q 0] s=some [(.bool true,s)]:=by
 refine cut_plain (fn:=Try.f55) rfl rfl (by kernel_rfl) (fun _ h=>by cases h) (fun _=>⟨rfl,.bool _⟩) ?_
 have hbd:bodyD prog (AT.row 55) (callD prog AT (n+1000)) AT.N 55 Try.f55 [pt p 0,pt q 0] s=f55 (dOps prog) (callD prog AT (n+1000)) (2^64) (pt p 0) (pt q 0) s:=f55_r _ _ _ _ _
 rw [hbd]
 have hel:=h.el
 have hbl:=h.bl
 have e109:=c109 (n:=n+998) h.tm h.pn h.mn (by omega)
 have hE1:Ext s (newD s (.row [.map (some m)])):=(Ext.refl s).new _
 have h1:=h.ext hE1
 obtain ⟨mm,hg⟩:=h1.ref
 obtain ⟨hRl,hRb⟩:=h.rel.len h.good
 have hk67:lenOfD prog (newD s (.row [.map (some m)])) 67 (sl uN (if E=[] then 2 else 0) (keysOf (E.map toEN)))=some (I (E.length:Int)):=by rw [len_sl u67,keys_len]
 have hne:¬ (E.length:Int)≠(R.length:Int):=by omega
 have hRE:(R.length:Int)=(E.length:Int):=by omega
 simp only [f55,oO,bindS,many1,jnE,boolS,gdB,fst',snd',b_peq u81,condF,e109,hk67,nilq,fld93_0,ld91 hg,len91,b_neq,hRE,decide_true,Bool.not_true]
 generalize (if E=[] then 2 else 0)=q0
 generalize newD s (.row [.map (some m)])=s1 at *
 have hlist:listOf E=(keysOf (E.map toEN)).map fun k=>(k,lkN E k):=rfl
 have hkl:=keys_len E
 have hlen67:∀ s':SH,lenOfD prog s' 67 (sl uN q0 (keysOf (E.map toEN)))=some (I (E.length:Int)):=fun s'=>by rw [len_sl u67,hkl]
 have hdat:dat R=(keysOf (E.map toEN)).map fun k=>(k,lkN E k):=by rw [← hlist]; exact h.rel
 refine list_one R (fun i (x:Value×Value) (s':SH)=>x.2=I (i:Int)∧s'=s1) ?_ ?_ ⟨rfl,rfl⟩ (by omega)
 · rintro i hi ⟨x1,x2⟩ s' ⟨e2,rfl⟩ nx hnx
   simp only at e2
   subst e2
   have lt:(i:Int)<(E.length:Int):=by omega
   have w:IntKind.i64.wrap ((i:Int)+1)=((i+1:Nat):Int):=by rw [wrap_i64 (by omega) (by omega)]; rfl
   have hki:i<(keysOf (E.map toEN)).length:=by omega
   have ix:indexAddrD prog 67 (sl uN q0 (keysOf (E.map toEN))) (I (i:Int))=some (fpV (uN (keysOf (E.map toEN))[i]).toArray 0):=ixs67 uN_len hki
   have hRi:(R[i].1,R[i].2.1)=((keysOf (E.map toEN))[i],lkN E (keysOf (E.map toEN))[i]):=by
    have h2:(dat R)[i]'(by unfold dat; rw [List.length_map]; exact hi)=((keysOf (E.map toEN)).map fun k=>(k,lkN E k))[i]'(by rw [List.length_map]; exact hki):=by
     simp only [hdat]
    unfold dat at h2
    rw [List.getElem_map,List.getElem_map] at h2
    exact h2
   have ixR:=ixE (mm:=mm) hi
   generalize R[i]=e at *
   generalize (keysOf (E.map toEN))[i]=k at *
   obtain ⟨hk1,hk2⟩:=Prod.mk.inj hRi
   have hkk:((k:Nat):Int)=(e.1:Int):=by omega
   have hlks:=lk_small h.good hbl k
   obtain ⟨z,hz,e50⟩:=c50 (n:=n+995) (k:=(k:Int)) h1.at_ h1.map h1.pn h1.mn (by rw [lk_N,List.length_map]; omega)
   rw [lk_N] at e50
   have e50:=oneS e50
   have e49:=c49 (n:=n+999) (m:=z) (m':=e.2.2) (s:=s') ((lkN E k).map toRg) (e.2.1.map toRg) (by rw [List.length_map]; omega)
   rw [hk2,decide_eq_true rfl] at e49
   have e49:=oneS e49
   simp only [f55_l0,oO,bindS,many1,jnE,boolS,gdB,fst',snd',hlen67,bop_lss,lt,decide_true,condT,ix,ldUN,nilq,fld93_0,ld91 hg,ixR,flf171_0,flf171_1,ldE0,ldE1,b_neq,hkk,Bool.not_true,condF]
   rw [hk1]
   simp only [e50,nilq,fld93_0,ld91 hg,ixR,flf171_1,ldE1,oO,bindS,many1,jnE,boolS,gdB,fst',snd',hk2,e49,uop_not,Bool.not_true,eqO_s,Bool.and_true,condT,condF,bop_add,w]
   exact hnx (_,_) _ ⟨rfl,rfl⟩
 · rintro ⟨x1,x2⟩ s' ⟨e2,rfl⟩ nx
   simp only at e2
   subst e2
   have lt:¬ (R.length:Int)<(E.length:Int):=by omega
   obtain ⟨z1,hz1,e61⟩:=c61 (n:=n+999) h1.tm h1.pn h1.mn (by omega)
   have hok:=listOf_ok h.good (by omega)
   obtain ⟨z2,hz2,e110⟩:=c110 (n:=n+998) h1.ref h1.qn (by rw [show dat R=listOf E from h.rel]; exact hok) (by omega) (fun e he=>by have:=hRb e he; omega)
   rw [show dat R=listOf E from h.rel] at e110
   have e26:=c26 (n:=n+999) (m:=z1) (m':=z2) (s:=s') (allB (listOf E))
   simp only [f55_l0,oO,bindS,many1,jnE,boolS,gdB,fst',snd',hlen67,bop_lss,lt,decide_false,condF,beq_yes,condT,e61,e110,e26]
   exact One.ret ⟨rfl,hE1⟩
end Go.Proofs.Ytmhmbmogodofeaa.S
namespace Go.Proofs.Ytmhmbmogodofeaa.S
open Go.FS Go.RowKit
open Go.Proofs.Try (prog)
attribute [local congr] bind_cg cond_cg gd_cg
open Go.FS.Q
theorem gapp67 {lo:Nat} {s:SH} {v:Value} {m2:Nat} {xs ys:List Int} (h:Grow lo 1 u6 s v xs) (hlo:lo≤s.n) (hb:(xs.length+ys.length)*8≤140737488355328) :
 ∃ v' s',appD prog false s 67 67 v (sl u6 m2 ys)=some (v',s')∧Grow lo 1 u6 s' v' (xs++ys)∧Sm lo s s'∧(∀ j,j<s.n→HP.get s.h j≠some (.tok xs.length 1)→HP.get s'.h j=HP.get s.h j) :=
 h.app (i:=Try.t70) hlo u67 u67 (by kernel_rfl) zr70 rfl (by kernel_rfl) (by kernel_rfl) (by decide) u6_len hb (by omega)
theorem bs67_0 (s:SH):buildSliceD prog false s 67 0 []=some (sl u6 1 [],s):=by kernel_rfl
theorem bs67_1 (s:SH):buildSliceD prog false s 67 1 [(0,U 77)]=some (sl u6 1 [77],s):=by kernel_rfl
theorem form6 {lo:Nat} {s:SH} {v:Value} {xs:List Int} (h:Grow lo 1 u6 s v xs):∃ m,v=sl u6 m xs:=by
 rcases h with ⟨rfl,rfl | rfl⟩ | ⟨id,_,_,rfl,_⟩
 · exact ⟨2,rfl⟩
 · exact ⟨1,rfl⟩
 · exact ⟨_,rfl⟩
theorem formS {lo:Nat} {s:SH} {v:Value} {xs:List Sa} (h:Grow lo 2 sm s v xs):∃ m,v=sl sm m xs:=by
 rcases h with ⟨rfl,rfl | rfl⟩ | ⟨id,_,_,rfl,_⟩
 · exact ⟨2,rfl⟩
 · exact ⟨1,rfl⟩
 · exact ⟨_,rfl⟩
theorem b_nbool (b:Bool):bopD prog .neq 4 (.bool b) (.bool b)=some (.bool false):=by cases b <;> kernel_rfl
theorem bl69:buildD prog 69 [(0,I 1),(1,I 2)]=some (.agg (rg (1,2)).toArray):=by kernel_rfl
theorem bl93:buildD prog 93 []=some (.agg #[fzV 2 #[]]):=by kernel_rfl
def ActAt (s:SH) (o:Nat) (a:Ac):Prop:=HP.get s.h o=some (.row (act a))
theorem ActAt.ext {s s':SH} {o:Nat} {a:Ac} (h:ActAt s o a) (ho:o<s.n) (k:Ext s s'):ActAt s' o a:=by unfold ActAt; rw [k.2 o ho]; exact h
theorem ActAt.but {q:Nat} {s s':SH} {o:Nat} {a:Ac} (h:ActAt s o a) (ho:o<s.n) (hq:o≠q) (k:But q s s'):ActAt s' o a:=by unfold ActAt; rw [k.2 o ho hq]; exact h
theorem ldAct3 {s:SH} {o:Nat} {a:Ac} (h:ActAt s o a):loadD prog s 3 (pt o 0)=some (I a.1):=ldat a3 h rfl
theorem ldActR {s:SH} {o:Nat} {a:Ac} (h:ActAt s o a):loadD prog s 69 (pt o 1)=some (.agg (rg a.2.1).toArray):=by rw [load_row h,part_agg a69 z69 (l:=rg a.2.1) rfl rfl]
theorem ldActI {s:SH} {o:Nat} {a:Ac} (h:ActAt s o a):loadD prog s 67 (pt o 3)=some (sl u6 0 a.2.2.1):=ldat a67 h rfl
theorem ldActD {s:SH} {o:Nat} {a:Ac} (h:ActAt s o a):loadD prog s 70 (pt o 4)=some (U a.2.2.2):=ldat a70 h rfl
section
variable {n N:Nat} {nx:(Value×Value×Value×Value×Value×Value×Value)→SH→Option (List (Value×SH))} {kx:Nat→(Value×Value×Value×Value×Value×Value×Value)→SH→Option (List (Value×SH))} {kr:(Value×Value×Value×Value×Value×Value×Value)→SH→Option (List (Value×SH))} {Q:Value→SH→Prop}
theorem j2_run {s:SH} {p m q c B o i zs:Nat} {E R:List EL} {a:Ac} {t:Int} {l:List Sa} {e6 e11 e12 e52 e71:Value} (h:Both s p m q c B E R) (ha:ActAt s o a) (ho:o<s.n) (hid:0≤a.2.2.2) (hl:l.length≤40) (hi:i≤40)
 (hk:∀ s' e6 e11 e12 e52 e71,Both s' p m q c B E R→Evr (nx (e6,pt p 0,I ((i+1:Nat):Int),e11,e12,e52,e71) s') Q) :
 Evr (f15_j2 (dOps (H:=HP) prog) (callD prog AT (n+2000)) N (I t) (sl sm zs l) e6 (pt p 0) (pt q 0) (I (i:Int)) (pt o 0) e11 e12 e52 e71 nx kx kr s) Q:=by
 obtain ⟨k,hkI⟩:∃ k:Nat,a.2.2.2=(k:Int):=⟨a.2.2.2.toNat,by omega⟩
 have hel:=h.el
 have hbl:=h.bl
 obtain ⟨hRl,hRb⟩:=h.rel.len h.good
 have hlks:=lk_small h.good hbl k
 have hlkR:=h.rel.lk h.good (by omega) k
 have hR30:∀ e∈R,e.2.1.length≤2^30:=fun e he=>by have:=hRb e he; omega
 have e55:=oneS (c55 (n:=n+999) h)
 have ld:=ldActD ha
 rw [hkI] at ld
 have e48:=c48 (n:=n+1997) (k:=(k:Int)) (t:=t) h.at_ h.map h.pn h.mn (by rw [lk_N,List.length_map]; omega)
 rw [lk_N] at e48
 have e48:=oneS e48
 have e56:=c56 (n:=n+1998) (k:=k) (t:=t) h.ref (by omega) hR30 (by rw [hlkR]; omega)
 rw [hlkR] at e56
 have e56:=oneS e56
 obtain ⟨z1,hz1,e50⟩:=c50 (n:=n+1995) (k:=(k:Int)) h.at_ h.map h.pn h.mn (by rw [lk_N,List.length_map]; omega)
 rw [lk_N] at e50
 have e50:=oneS e50
 obtain ⟨z2,hz2,e57⟩:=c57 (n:=n+1999) (k:=k) h.ref (by omega) hR30
 rw [hlkR] at e57
 have e57:=oneS e57
 have e49:=c49 (n:=n+1999) (m:=z1) (m':=z2) (s:=s) ((lkN E k).map toRg) ((lkN E k).map toRg) (by rw [List.length_map]; omega)
 rw [decide_eq_true rfl] at e49
 have e49:=oneS e49
 obtain ⟨v3,s3,e3,k1,k2,k3⟩:=gapp89 (lo:=s.n) (s:=s) (m2:=zs) (xs:=[]) (ys:=l) (.inl ⟨rfl,.inr rfl⟩) (Nat.le_refl _) (by simp only [List.length_nil]; omega)
 have hE3:Ext s s3:=k2
 have h3:=h.ext hE3
 have ha3:=ha.ext ho hE3
 have ld3:=ldActD ha3
 rw [hkI] at ld3
 obtain ⟨m3,rfl⟩:=formS k1
 rw [List.nil_append] at e3
 obtain ⟨z4,hz4,e59⟩:=c59 (n:=n+1996) (k:=k) (m:=m3) h3.at_ h3.map h3.pn h3.mn (by rw [lk_N,List.length_map]; omega) l (by omega)
 rw [lk_N] at e59
 have e59:=oneS e59
 obtain ⟨z5,hz5,e60⟩:=c60 (n:=n+1997) (k:=k) (m:=zs) h3.ref h3.qn (by omega) hR30 (by rw [hlkR]; omega) l (by omega)
 rw [hlkR] at e60
 have e60:=oneS e60
 have hll:(leftL ((lkN E k).map toRg) l).length≤l.length:=List.length_filter_le _ _
 have e58:=oneS (c58 (n:=n+1999) (m:=z4) (m':=z5) (s:=s3) (leftL ((lkN E k).map toRg) l) (by omega))
 have w:IntKind.i64.wrap ((i:Int)+1)=((i+1:Nat):Int):=by rw [wrap_i64 (by omega) (by omega)]; rfl
 simp only [f15_j2,f15_j3,oO,bindS,many1,jnE,boolS,gdB,fst',snd',e55,uop_not,Bool.not_true,condF,fld95_3,ld,e48,e56,b_nbool,e50,e57,e49,bs89_0,e3,e59,ld3,e60,e58,eqO_s,Bool.and_true,condT,bop_add,w]
 exact hk s3 _ _ _ _ _ h3
end
end Go.Proofs.Ytmhmbmogodofeaa.S
namespace Go.Proofs.Ytmhmbmogodofeaa.S
open Go.FS Go.RowKit
open Go.Proofs.Try (prog)
attribute [local congr] bind_cg cond_cg gd_cg
open Go.FS.Q
theorem listOf_map {E:List EL} (h:(E.map (·.1)).Nodup) (x:Nat×List (Nat×Nat)):x∈listOf E↔x∈E.map fun e=>(e.1,e.2.1):=by
 rw [listOf_mem]
 have hlk:∀ (E:List EL),(E.map (·.1)).Nodup→∀ e∈E,lkN E e.1=e.2.1:=by
  intro E
  induction E with
  | nil=>intro _ e he; cases he
  | cons a E ih =>
   intro hn e he
   rw [List.map_cons,List.nodup_cons] at hn
   unfold lkN
   rcases List.mem_cons.1 he with rfl | he
   · rw [if_pos rfl]
   · rw [if_neg fun hh=>hn.1 (List.mem_map.2 ⟨e,he,hh.symm⟩)]
     exact ih hn.2 e he
 constructor
 · rintro ⟨h1,h2⟩
   obtain ⟨e,he,hek⟩:=List.mem_map.1 h1
   refine List.mem_map.2 ⟨e,he,?_⟩
   have:=hlk E h e he
   exact Prod.ext hek (by rw [h2,← hek,this])
 · intro hx
   obtain ⟨e,he,rfl⟩:=List.mem_map.1 hx
   exact ⟨List.mem_map.2 ⟨e,he,rfl⟩,(hlk E h e he).symm⟩
theorem Both.ne {s:SH} {p m q c B:Nat} {E R:List EL} (h:Both s p m q c B E R):p≠q∧m≠q∧p≠m:=by
 obtain ⟨mm,hq⟩:=h.ref
 have hp:=h.at_
 have hm:=h.map
 unfold TombAt at hp
 refine ⟨?_,?_,?_⟩
 · rintro rfl; rw [hp] at hq; cases hq
 · rintro rfl; rw [hm] at hq; cases hq
 · rintro rfl; rw [hp] at hm; cases hm
theorem Both.act {s:SH} {p m q c B o:Nat} {E R:List EL} {a:Ac} (h:Both s p m q c B E R) (ha:ActAt s o a):o≠p∧o≠m∧o≠q:=by
 obtain ⟨mm,hq⟩:=h.ref
 have hp:=h.at_
 have hm:=h.map
 unfold TombAt at hp
 unfold ActAt at ha
 refine ⟨?_,?_,?_⟩
 · rintro rfl; rw [hp] at ha; cases ha
 · rintro rfl; rw [hm] at ha; cases ha
 · rintro rfl; rw [hq] at ha; cases ha
theorem most_good {E:List EL} {c B:Nat} (h:Good E c B):most (E.map toEn) B:=fun e he=>by
 obtain ⟨x,hx,rfl⟩:=List.mem_map.1 he
 show (x.2.1.map toRg).length≤B
 rw [List.length_map]; exact h.len x hx
section
variable {n N:Nat} {nx:(Value×Value×Value×Value×Value×Value×Value)→SH→Option (List (Value×SH))} {kx:Nat→(Value×Value×Value×Value×Value×Value×Value)→SH→Option (List (Value×SH))} {kr:(Value×Value×Value×Value×Value×Value×Value)→SH→Option (List (Value×SH))} {Q:Value→SH→Prop}
theorem j1_add {s:SH} {p m q c B o i zs zi:Nat} {E R:List EL} {a:Ac} {t:Int} {l:List Sa} {ids:List Int} {e6 e12 e44 e71:Value} (h:Both s p m q c B E R) (ha:ActAt s o a) (ho:o<s.n) (hid:0≤a.2.2.2) (hl:l.length≤40) (hi:i<40) (hE:E.length≤6*i) (hB:B≤6*i) (hil:ids.length≤6) (hids:∀ k∈ids,0≤k∧k<2^64)
 (hk:∀ s' p' m' c' B' E' R' e6 e11 e12 e52 e71,Both s' p' m' q c' B' E' R'→E'.length≤6*(i+1)→B'≤6*(i+1)→Evr (nx (e6,pt p' 0,I ((i+1:Nat):Int),e11,e12,e52,e71) s') Q) :
 Evr (f15_j1 (dOps (H:=HP) prog) (callD prog AT (n+2000)) N (I t) (sl sm zs l) e6 (pt p 0) (pt q 0) (I (i:Int)) (pt o 0) (sl u6 zi ids) e12 e44 (.bool true) e71 nx kx kr s) Q:=by
 obtain ⟨n1,n2,n3⟩:=h.ne
 obtain ⟨o1,o2,o3⟩:=h.act ha
 obtain ⟨v3,s3,e3,k1,k2,k3⟩:=gapp67 (lo:=s.n) (s:=s) (m2:=zi) (xs:=[]) (ys:=ids) (.inl ⟨rfl,.inr rfl⟩) (Nat.le_refl _) (by simp only [List.length_nil]; omega)
 have hE3:Ext s s3:=k2
 have h3:=h.ext hE3
 have ha3:=ha.ext ho hE3
 obtain ⟨m3,rfl⟩:=form6 k1
 rw [List.nil_append] at e3
 have ho3:o<s3.n:=Nat.lt_of_lt_of_le ho hE3.1
 have e47:=oneS (c47 (n:=n+1997) (mm:=m3) h3.at_ h3.map h3.pn h3.mn a.2.1 ids (most_good h3.good) (by omega))
 by_cases hr:rightR a.2.1 ids=true
 · rw [if_pos hr,if_pos hr] at e47
   have hq4:RefAt (putD s3 m (.map ((addE (E.map toEn) c a.2.1 ids).1.map ent) (addE (E.map toEn) c a.2.1 ids).2)) q R:=h3.ref.but (get_put_other (fun hh=>n2 hh.symm))
   have ha4:ActAt (putD s3 m (.map ((addE (E.map toEn) c a.2.1 ids).1.map ent) (addE (E.map toEn) c a.2.1 ids).2)) o a:=by unfold ActAt; rw [get_put_other o2]; exact ha3
   obtain ⟨s5,R',E',c',e51,hB5,hR5,hRel,hadd,hG,hEl⟩:=c51 (n:=n+1998) (mm:=zi) hq4 h3.qn h3.rel h3.good (by omega) (by omega) a.2.1 ids (by omega) (fun k hk=>(hids k hk).2)
   rw [if_pos hr] at hadd e51
   have e51:=oneS e51
   have hp5:TombAt s5 p m:=by unfold TombAt; rw [hB5.2 p h3.pn n1,get_put_other n3]; exact h3.at_
   have hm5:HP.get s5.h m=some (.map ((E'.map toEn).map ent) c'):=by rw [hB5.2 m h3.mn n2,get_put_same,hadd]
   have hn5:s3.n≤s5.n:=hB5.1
   have h5:Both s5 p m q c' (B+ids.length) E' R':=⟨hp5,hm5,hG,by omega,by omega,hR5,hRel,Nat.lt_of_lt_of_le h3.pn hn5,Nat.lt_of_lt_of_le h3.mn hn5,Nat.lt_of_lt_of_le h3.qn hn5⟩
   have ha5:=ha4.but ho3 o3 hB5
   simp only [f15_j1,oO,bindS,many1,jnE,boolS,gdB,fst',snd',condT,fld95_1,ldActR ha,bs67_0,e3,e47,ldActR ha3,ldActR ha4,e51,b_neq,decide_true,Bool.not_true,eqO_s,Bool.and_true,condF]
   exact j2_run h5 ha5 (Nat.lt_of_lt_of_le ho3 hn5) hid hl (by omega) fun s' e6 e11 e12 e52 e71 hb=>hk s' p m c' _ E' R' e6 e11 e12 e52 e71 hb (by omega) (by omega)
 · rw [if_neg hr,if_neg hr] at e47
   obtain ⟨s5,R',E',c',e51,hB5,hR5,hRel,hadd,hG,hEl⟩:=c51 (n:=n+1998) (mm:=zi) h3.ref h3.qn h3.rel h3.good (by omega) (by omega) a.2.1 ids (by omega) (fun k hk=>(hids k hk).2)
   rw [if_neg hr] at hadd e51
   obtain ⟨rfl,rfl⟩:=hadd
   have e51:=oneS e51
   have hp5:TombAt s5 p m:=by unfold TombAt; rw [hB5.2 p h3.pn n1]; exact h3.at_
   have hm5:HP.get s5.h m=some (.map ((E'.map toEn).map ent) c'):=by rw [hB5.2 m h3.mn n2]; exact h3.map
   have hn5:s3.n≤s5.n:=hB5.1
   have h5:Both s5 p m q c' B E' R':=⟨hp5,hm5,h3.good,by omega,by omega,hR5,hRel,Nat.lt_of_lt_of_le h3.pn hn5,Nat.lt_of_lt_of_le h3.mn hn5,Nat.lt_of_lt_of_le h3.qn hn5⟩
   have ha5:=ha3.but ho3 o3 hB5
   simp only [f15_j1,oO,bindS,many1,jnE,boolS,gdB,fst',snd',condT,fld95_1,ldActR ha,bs67_0,e3,e47,ldActR ha3,e51,b_neq,decide_true,Bool.not_true,eqO_s,Bool.and_true,condF]
   exact j2_run h5 ha5 (Nat.lt_of_lt_of_le ho3 hn5) hid hl (by omega) fun s' e6 e11 e12 e52 e71 hb=>hk s' p m c' _ E' R' e6 e11 e12 e52 e71 hb (by omega) (by omega)
theorem j1_else {s:SH} {p m q c B o i zs:Nat} {E R:List EL} {a:Ac} {t D:Int} {l:List Sa} {e6 e11 e12 e71:Value} (h:Both s p m q c B E R) (ha:ActAt s o a) (ho:o<s.n) (hid:0≤a.2.2.2) (hl:l.length≤40) (hi:i<40) (hE:E.length≤6*i) (hB:B≤6*i)
 (hk:∀ s' p' m' c' B' E' R' e6 e11 e12 e52 e71,Both s' p' m' q c' B' E' R'→E'.length≤6*(i+1)→B'≤6*(i+1)→Evr (nx (e6,pt p' 0,I ((i+1:Nat):Int),e11,e12,e52,e71) s') Q) :
 Evr (f15_j1 (dOps (H:=HP) prog) (callD prog AT (n+2000)) N (I t) (sl sm zs l) e6 (pt p 0) (pt q 0) (I (i:Int)) (pt o 0) e11 e12 (I D) (.bool false) e71 nx kx kr s) Q:=by
 obtain ⟨n1,n2,n3⟩:=h.ne
 obtain ⟨o1,o2,o3⟩:=h.act ha
 obtain ⟨hRl,hRb⟩:=h.rel.len h.good
 by_cases h5:D=5
 · obtain ⟨k,hkI⟩:∃ k:Nat,a.2.2.2=(k:Int):=⟨a.2.2.2.toNat,by omega⟩
   have ld:=ldActD ha
   rw [hkI] at ld
   have e52:=c52 (n:=n+1998) (k:=k) h.at_ h.map h.good.keys
   have ha4:ActAt (putD s m (.map (((delL E k).map toEn).map ent) c)) o a:=by unfold ActAt; rw [get_put_other o2]; exact ha
   have ld4:=ldActD ha4
   rw [hkI] at ld4
   have hq4:RefAt (putD s m (.map (((delL E k).map toEn).map ent) c)) q R:=h.ref.but (get_put_other (fun hh=>n2 hh.symm))
   obtain ⟨s5,e53,hB5,hR5⟩:=c53 (n:=n+1999) (k:=k) hq4 h.qn (by have:=h.el; omega)
   have hp5:TombAt s5 p m:=by unfold TombAt; rw [hB5.2 p h.pn n1,get_put_other n3]; exact h.at_
   have hm5:HP.get s5.h m=some (.map (((delL E k).map toEn).map ent) c):=by rw [hB5.2 m h.mn n2,get_put_same]
   have hn5:s.n≤s5.n:=hB5.1
   have hdl:(delL E k).length≤E.length:=List.length_filter_le _ _
   have h5':Both s5 p m q c B (delL E k) (dropE R k):=⟨hp5,hm5,h.good.del,by have:=h.el; omega,h.bl,hR5,h.rel.del h.good (by have:=h.bl; omega),Nat.lt_of_lt_of_le h.pn hn5,Nat.lt_of_lt_of_le h.mn hn5,Nat.lt_of_lt_of_le h.qn hn5⟩
   have ha5:=ha4.but ho o3 hB5
   simp only [f15_j1,oO,bindS,many1,jnE,boolS,gdB,fst',snd',condF,bop_eql,h5,decide_true,condT,fld95_3,ld,e52,ld4,e53]
   exact j2_run h5' ha5 (Nat.lt_of_lt_of_le ho hn5) hid hl (by omega) fun s' e6 e11 e12 e52 e71 hb=>hk s' p m c _ _ _ e6 e11 e12 e52 e71 hb (by omega) (by omega)
 · simp only [f15_j1,boolS,oa,oi,bindS,condF,bop_eql,h5,decide_false]
   refine Evr.bind (c54 (n:=n+1998) h.at_ h.map h.pn h.mn h.good (by have:=h.el; omega) (by have:=h.bl; omega)) fun v s2 hR=>?_
   obtain ⟨E',rfl,hx2,hn2,ht2,hm2,hG2,hmem,hEl⟩:=hR
   have hold:=h.ext hx2
   have hsp:=h.pn
   have hsm:=h.mn
   have e47:=c47 (n:=n+1997) (mm:=1) hold.at_ hold.map hold.pn hold.mn (1,2) [77] (most_good hold.good) (by have:=h.bl; simp only [List.length_singleton]; omega)
   rw [if_pos (by decide),if_pos (by decide)] at e47
   have hrel:Rel E' R:=by
    show dat R=listOf E'
    rw [show dat R=listOf E from h.rel]
    refine sortK_uniq (listOf_sorted h.good (by have:=h.bl; omega)) (listOf_sorted hG2 (by have:=h.bl; omega)) fun x=>?_
    rw [listOf_map h.good.keys,listOf_map hG2.keys]; exact (hmem x).symm
   have key:∀ ob:DObj,Both (putD s2 m ob) (s.n+1) s.n q E'.length B E' R∧ActAt (putD s2 m ob) o a:=fun ob=>⟨⟨by unfold TombAt; rw [get_put_other (by omega)]; exact ht2,by rw [get_put_other (by omega)]; exact hm2,hG2,by have:=h.el; omega,h.bl,hold.ref.but (get_put_other (fun hh=>n2 hh.symm)),hrel,by rw [putD_n]; omega,by rw [putD_n]; omega,by rw [putD_n]; exact hold.qn⟩,by unfold ActAt; rw [get_put_other o2]; exact ha.ext ho hx2⟩
   simp only [oO,bindS,many1,jnE,boolS,gdB,fst',snd',bl69,bs67_1,e47]
   exact j2_run (key _).1 (key _).2 (by rw [putD_n]; have:=hx2.1; omega) hid hl (by omega) fun s' e6 e11 e12 e52 e71 hb=>hk s' _ _ _ _ _ _ e6 e11 e12 e52 e71 hb (by omega) (by omega)
end
end Go.Proofs.Ytmhmbmogodofeaa.S
namespace Go.Proofs.Ytmhmbmogodofeaa.S
open Go.FS Go.RowKit
open Go.Proofs.Try (prog)
attribute [local congr] bind_cg cond_cg gd_cg
open Go.FS.Q
theorem run15 {n zs:Nat} {s:SH} (acts:List Ac) (t:Int) (l:List Sa) (hids:∀ a∈acts,(∀ k∈a.2.2.1,0≤k∧k<2^64)∧0≤a.2.2.2) :
 Evr (callD prog AT (n+2001) (.fn 15) [sl act 0 acts,I t,sl sm zs l] s) fun v _=>v=.bool true:=by
 rw [call_fn (fn:=Try.f15) rfl rfl (by kernel_rfl)]
 have hbd:bodyD prog (AT.row 15) (callD prog AT (n+2000)) AT.N 15 Try.f15 [sl act 0 acts,I t,sl sm zs l] s=f15 (dOps prog) (callD prog AT (n+2000)) (2^64) (sl act 0 acts) (I t) (sl sm zs l) s:=f15_r _ _ _ _ _ _
 rw [hbd]
 have e46:=c46 (n:=n+1999) (s:=s)
 have hbx:boxD (newD (newD s (.map [] 0)) (.row [.map (some s.n)])) (.agg #[fzV 2 #[]])=some (pt (s.n+2) 0,newD (newD (newD s (.map [] 0)) (.row [.map (some s.n)])) (.row [fzV 2 #[]])):=box_at rfl rfl
 have mn:minD prog (I (l.length:Int)) [I 40]=some (I ((min l.length 40:Nat):Int)):=min_nat .i64 _ 40
 have sc:∀ s:SH,slcD prog s 89 (sl sm zs l) none (some (I ((min l.length 40:Nat):Int))) none=some (sl sm (bif Nat.beq zs 2 then 2 else 0) (l.take (min l.length 40))):=fun s=>slc_sl u89 z140 sm_len (Nat.min_le_left _ _)
 simp only [f15,oO,bindS,many1,jnE,boolS,gdB,fst',snd',e46,bl93,hbx,len89,mn,sc]
 have hl40:(l.take (min l.length 40)).length≤40:=by rw [List.length_take]; omega
 generalize l.take (min l.length 40)=l' at *
 generalize (bif Nat.beq zs 2 then 2 else 0)=z' at *
 have hx1:HP.get (newD (newD (newD s (.map [] 0)) (.row [.map (some s.n)])) (.row [fzV 2 #[]])).h s.n=some (.map [] 0):=by rw [get_old (by simp only [newD_n]; omega),get_old (by simp only [newD_n]; omega)]; exact get_n0 s _
 have hx2:TombAt (newD (newD (newD s (.map [] 0)) (.row [.map (some s.n)])) (.row [fzV 2 #[]])) (s.n+1) s.n:=by
  unfold TombAt; rw [get_old (by simp only [newD_n]; omega)]; exact get_new (by rw [newD_n])
 have hx3:RefAt (newD (newD (newD s (.map [] 0)) (.row [.map (some s.n)])) (.row [fzV 2 #[]])) (s.n+2) []:=⟨2,get_new (by simp only [newD_n])⟩
 have hx4:(newD (newD (newD s (.map [] 0)) (.row [.map (some s.n)])) (.row [fzV 2 #[]])).n=s.n+3:=by simp only [newD_n]
 have hG0:Good [] 0 0:=⟨List.nodup_nil,List.nodup_nil,(fun e he=>by cases he),(fun e he=>by cases he),(fun e he=>by cases he)⟩
 have hb0:Both (newD (newD (newD s (.map [] 0)) (.row [.map (some s.n)])) (.row [fzV 2 #[]])) (s.n+1) s.n (s.n+2) 0 0 [] []:=⟨hx2,hx1,hG0,by decide,by decide,hx3,(sortK_uniq .nil (listOf_sorted hG0 (by decide)) fun x=>by rw [listOf_map (E:=[]) List.nodup_nil]; simp [dat]),by omega,by omega,by omega⟩
 generalize newD (newD (newD s (.map [] 0)) (.row [.map (some s.n)])) (.row [fzV 2 #[]])=s1 at *
 generalize s.n+2=q at *
 have hlen88:∀ s':SH,lenOfD prog s' 88 (sl act 0 acts)=some (I (acts.length:Int)):=fun s'=>len_sl u88
 have htk:(acts.take 40).length=min 40 acts.length:=List.length_take
 refine list_rule (acts.take 40) (fun i (x:Value×Value×Value×Value×Value×Value×Value) (s':SH)=>∃ p m c B E R,x.2.1=pt p 0∧x.2.2.1=I (i:Int)∧Both s' p m q c B E R∧E.length≤6*i∧B≤6*i) (fun R=>Evr R fun v _=>v=.bool true) ?_ ?_ ⟨_,_,_,_,_,_,rfl,rfl,hb0,Nat.le_refl _,Nat.le_refl _⟩ (by omega)
 · rintro i hi ⟨x1,x2,x3,x4,x5,x6,x7⟩ s' ⟨p,m,c,B,E,R,e1,e2,hb,hE,hB⟩ nx hnx
   simp only at e1 e2
   subst e1 e2
   have hi2:i<acts.length:=by omega
   have hi40:i<40:=by omega
   have lt1:(i:Int)<(acts.length:Int):=by omega
   have lt2:(i:Int)<40:=by omega
   have ix:indexAddrD prog 88 (sl act 0 acts) (I (i:Int))=some (fpV (act acts[i]).toArray 0):=ixs88 act_len hi2
   have hidi:=hids acts[i] (List.getElem_mem hi2)
   generalize acts[i]=a at *
   have ld:loadD prog s' 95 (fpV (act a).toArray 0)=some (.agg (act a).toArray):=by rw [load_fp,part_agg a95 z95 (l:=act a) rfl rfl]
   have al:allocD prog s' 95=some (pt s'.n 0,newD s' (.row [I 0,I 0,I 0,fzV 2 #[],U 0])):=alloc_at zr95
   have st:storeD prog (newD s' (.row [I 0,I 0,I 0,fzV 2 #[],U 0])) 95 (pt s'.n 0) (.agg (act a).toArray)=some (newD s' (.row (act a))):=st_n0 s' z95 rfl rfl rfl
   have ha:ActAt (newD s' (.row (act a))) s'.n a:=get_n0 s' _
   have hb2:=hb.ext ((Ext.refl s').new (.row (act a)))
   have hn2:(newD s' (.row (act a))).n=s'.n+1:=newD_n _ _
   generalize newD s' (.row (act a))=s2 at *
   have hl:lenOfD prog s2 67 (sl u6 0 a.2.2.1)=some (I (a.2.2.1.length:Int)):=len_sl u67
   have mn:minD prog (I (a.2.2.1.length:Int)) [I 6]=some (I ((min a.2.2.1.length 6:Nat):Int)):=min_nat .i64 _ 6
   have sc:slcD prog s2 67 (sl u6 0 a.2.2.1) none (some (I ((min a.2.2.1.length 6:Nat):Int))) none=some (sl u6 (bif Nat.beq 0 2 then 2 else 0) (a.2.2.1.take (min a.2.2.1.length 6))):=slc_sl u67 z70 u6_len (Nat.min_le_left _ _)
   have hil:(a.2.2.1.take (min a.2.2.1.length 6)).length≤6:=by rw [List.length_take]; omega
   have hidt:∀ k∈a.2.2.1.take (min a.2.2.1.length 6),0≤k∧k<2^64:=fun k hk=>hidi.1 k (List.mem_of_mem_take hk)
   have e20:=c20 (n:=n+1999) (s:=s2) a.1 7 (by decide)
   have hk:∀ s' p' m' c' B' E' R' e6 e11 e12 e52 e71,Both s' p' m' q c' B' E' R'→E'.length≤6*(i+1)→B'≤6*(i+1)→Evr (nx (e6,pt p' 0,I ((i+1:Nat):Int),e11,e12,e52,e71) s') fun v _=>v=.bool true:=fun s' p' m' c' B' E' R' e6 e11 e12 e52 e71 h1 h2 h3=>hnx _ _ ⟨p',m',c',B',E',R',rfl,rfl,h1,h2,h3⟩
   simp only [f15_l0,f15_j0,oO,bindS,many1,jnE,boolS,gdB,fst',snd',hlen88,bop_lss,lt1,lt2,decide_true,condT,ix,ld,al,st,fld95_2,fld95_0,ldActI ha,ldAct3 ha,hl,mn,sc,e20,bop_eql]
   generalize a.2.2.1.take (min a.2.2.1.length 6)=ids at *
   by_cases d0:among a.1 7=0
   · simp only [d0,decide_true,oO,bindS,many1,jnE,boolS,gdB,fst',snd',condT]
     exact j1_add hb2 ha (by omega) hidi.2 hl40 hi40 hE hB hil hidt hk
   simp only [d0,decide_false,oO,bindS,many1,jnE,boolS,gdB,fst',snd',condF]
   by_cases d1:among a.1 7=1
   · simp only [d1,decide_true,oO,bindS,many1,jnE,boolS,gdB,fst',snd',condT]
     exact j1_add hb2 ha (by omega) hidi.2 hl40 hi40 hE hB hil hidt hk
   simp only [d1,decide_false,oO,bindS,many1,jnE,boolS,gdB,fst',snd',condF]
   by_cases d2:among a.1 7=2
   · simp only [d2,decide_true,oO,bindS,many1,jnE,boolS,gdB,fst',snd',condT]
     exact j1_add hb2 ha (by omega) hidi.2 hl40 hi40 hE hB hil hidt hk
   simp only [d2,decide_false,oO,bindS,many1,jnE,boolS,gdB,fst',snd',condF]
   by_cases d3:among a.1 7=3
   · simp only [d3,decide_true,oO,bindS,many1,jnE,boolS,gdB,fst',snd',condT]
     exact j1_add hb2 ha (by omega) hidi.2 hl40 hi40 hE hB hil hidt hk
   simp only [d3,decide_false,oO,bindS,many1,jnE,boolS,gdB,fst',snd',condF]
   by_cases d4:among a.1 7=4
   · simp only [d4,decide_true]
     exact j1_add hb2 ha (by omega) hidi.2 hl40 hi40 hE hB hil hidt hk
   · simp only [d4,decide_false]
     exact j1_else hb2 ha (by omega) hidi.2 hl40 hi40 hE hB hk
 · rintro ⟨x1,x2,x3,x4,x5,x6,x7⟩ s' ⟨p,m,c,B,E,R,e1,e2,hb,hE,hB⟩ nx
   simp only at e1 e2
   subst e1 e2
   rw [htk]
   have e45:=c45 (n:=n+1999) (s:=s')
   by_cases h1:((min 40 acts.length:Nat):Int)<(acts.length:Int)
   · have h2:¬ ((min 40 acts.length:Nat):Int)<40:=by omega
     simp only [f15_l0,f15_j4,oO,bindS,many1,jnE,boolS,gdB,fst',snd',hlen88,bop_lss,h1,h2,decide_true,decide_false,condT,condF,beq_yes,e45]
     exact Evr.ret rfl
   · simp only [f15_l0,f15_j4,oO,bindS,many1,jnE,boolS,gdB,fst',snd',hlen88,bop_lss,h1,decide_false,condF,beq_yes,condT,e45]
     exact Evr.ret rfl
theorem allTrue_evr {H:HeapI} {r:Option (List (Value×St H))} (h:Evr r fun v _=>v=.bool true):allTrue r=true:=by
 obtain ⟨L,rfl,_,h2⟩:=h
 show (L.all _)=true
 rw [List.all_eq_true]
 intro p hp
 rw [h2 p hp]
end Go.Proofs.Ytmhmbmogodofeaa.S
