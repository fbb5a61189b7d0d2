import Derived.Test.YtmhmbmogodofeaaFn
namespace Go.FS
open Go.RowKit
variable {P:Program} {H:HeapI}
theorem cutL_ok {E1:Env} {s s1:St H} {w1:World} (hW1:WRel E1 s1 w1) (hn:s.n≤E1.n):∀ (l:List Value) (l':List Value) (fl:List (Option Nat)) (Es:Env) (st:St H) {l2:List Value} {st':St H},LRel E1 l l'→(E1.to s.n).Le Es→Es.fz=E1.fz→Es.tb=E1.tb→WRel Es st w1 →
 ((fl.filter Option.isSome).length≤1∧((st=mrg s s1∧Es=E1.to s.n)∨(fl.filter Option.isSome).length=0))→cutL s s1 fl l st=some (l2,st') →
 ∃ E',LRel E' l2 l'∧WRel E' st' w1∧Es.Le E'∧E'.fz=E1.fz∧E'.tb=E1.tb∧(∀ i,Es.n≤i→i<E'.n→E'.own i=false)
 | [],l',fl,Es,st,l2,st',hL,hle,hfz,htb,hWs,_,h=>by
  have h:some (([]:List Value),st)=some (l2,st'):=by cases fl <;> exact h
  injection h with h
  injection h with h1 h2
  subst h1 h2
  obtain rfl:=hL.unnil
  exact ⟨Es,.nil Es,hWs,.refl Es,hfz,htb,fun i a b=>absurd b (Nat.not_lt_of_le a)⟩
 | c::l,m,fl,Es,st,l2,st',hL,hle,hfz,htb,hWs,hfl,h=>by
  obtain ⟨c',l',rfl,hc,hl⟩:=hL.uncons
  have h:((cutC s s1 st (fl.headD none) c).bind fun p=>(cutL s s1 fl.tail l p.2).map fun q=>(p.1::q.1,q.2))=some (l2,st'):=by cases fl <;> exact h
  obtain ⟨p,hp,h⟩:=bsome h
  obtain ⟨q,hq,h⟩:=msome h
  injection h with h1 h2
  subst h1 h2
  obtain ⟨p1,p2⟩:=p
  obtain ⟨q1,q2⟩:=q
  have hcount:(fl.filter Option.isSome).length=(if (fl.headD none).isSome then 1 else 0)+(fl.tail.filter Option.isSome).length:=by
   cases fl with
   | nil=>rfl
   | cons a fl =>
    cases a with
    | none=>simp
    | some a=>simp; omega
  obtain ⟨E2,a1,a2,a3,a4,a5,a6,a7⟩:=cutC_ok hW1 hc hn hle hfz htb hWs (fun ho=>by
   rcases hfl.2 with h | h
   · exact h
   · rw [ho] at hcount; simp only [if_true] at hcount; omega) hp
  have hfl2:(fl.tail.filter Option.isSome).length≤1∧((p2=mrg s s1∧E2=E1.to s.n)∨(fl.tail.filter Option.isSome).length=0):=by
   refine ⟨by omega,?_⟩
   cases ho:(fl.headD none) with
   | some z =>
    right
    rw [ho] at hcount
    simp only [Option.isSome_some,if_true] at hcount
    omega
   | none =>
    obtain ⟨e1,e2⟩:=a7 ho
    rw [ho] at hcount
    simp only [Option.isSome_none,Bool.false_eq_true,if_false] at hcount
    rcases hfl.2 with ⟨h1,h2⟩ | h
    · exact .inl ⟨e1.trans h1,e2.trans h2⟩
    · exact .inr (by omega)
  obtain ⟨E3,b1,b2,b3,b4,b5,b6⟩:=cutL_ok hW1 hn l l' fl.tail E2 p2 hl (hle.trans a3) a4 a5 a2 hfl2 hq
  refine ⟨E3,.cons (a1.mono b3) b1,b2,a3.trans b3,b4,b5,fun i x y=>?_⟩
  by_cases hi:i<E2.n
  · rw [b3.own i hi]; exact a6 i x hi
  · exact b6 i (by omega) y
def Frz (n:Nat) (E E':Env):Prop:=E.Le E'∧E'.n=E.n∧E'.tb=E.tb∧E'.own=E.own∧E'.blk=E.blk∧∀ b o,E'.fz b o≠E.fz b o→∃ id,n≤id∧id<E.n∧E.own id=true∧E.blk id=b
theorem Frz.refl (n:Nat) (E:Env):Frz n E E:=⟨.refl E,rfl,rfl,rfl,rfl,fun _ _ h=>absurd rfl h⟩
theorem Frz.trans {n:Nat} {E F G:Env} (h:Frz n E F) (k:Frz n F G):Frz n E G:=by
 obtain ⟨a1,a2,a3,a4,a5,a6⟩:=h
 obtain ⟨b1,b2,b3,b4,b5,b6⟩:=k
 refine ⟨a1.trans b1,b2.trans a2,b3.trans a3,b4.trans a4,b5.trans a5,fun b o hne=>?_⟩
 by_cases e:G.fz b o=F.fz b o
 · exact a6 b o (by rw [← e]; exact hne)
 · obtain ⟨id,c1,c2,c3,c4⟩:=b6 b o e
   exact ⟨id,c1,by omega,by rw [← a4]; exact c3,by rw [← a5]; exact c4⟩
def Env.ice (E:Env) (w:World) (b0:Nat):Env:={ E with fz:=fun b o=>if b=b0 then w.cell? ⟨b,o,none⟩ else E.fz b o }
theorem WRel.frz1 {E:Env} {s:St H} {w:World} (h:WRel E s w) {id:Nat} {r:List Value} (hg:H.get s.h id=some (.row r)) :
 E.Le (E.ice w (E.blk id))∧WRel (E.ice w (E.blk id)) { s with h:=H.put s.h id none } w:=by
 have hid:=h.lt id _ hg
 have hown:E.own id=true:=(h.row hg).own
 have htb:=h.tbo id _ hg hown
 have hfz:∀ o v,E.fz (E.blk id) o=some v→False:=fun o v hv=>(h.frz _ _ _ hv).2 id _ hg hown rfl
 have hle:E.Le (E.ice w (E.blk id)):=⟨Nat.le_refl _,fun _ _=>rfl,fun _ _=>rfl,fun _ _=>rfl,fun _ _=>rfl,fun b o v hv=>by
  show (if b=E.blk id then _ else _)=_
  by_cases e:b=E.blk id
  · subst e; exact (hfz o v hv).elim
  · rw [if_neg e]; exact hv,fun _ _ _ _ h=>h,fun _ h=>h⟩
 have hk:∀ {i o},H.get (H.put s.h id none) i=some o→i≠id∧H.get s.h i=some o:=fun {i o} hg'=>by
  rw [H.get_put] at hg'; split at hg'
  · cases hg'
  · rename_i hne; exact ⟨hne,hg'⟩
 refine ⟨hle,h.n,h.blt,fun i o q=>h.lt i o (hk q).2,fun i j oi oj hi hj=>h.inj i j oi oj (hk hi).2 (hk hj).2,fun i oi q=>?_,
  fun i j L z L' z' b f t f' t' hi hj=>h.tinj i j L z L' z' b f t f' t' (hk hi).2 (hk hj).2,fun i o q=>h.tbo i o (hk q).2,fun b o v hv=>?_,h.tbl,fun g cs hg'=>(h.glb g cs hg').mono hle⟩
 · obtain ⟨hne,hg'⟩:=hk q
   have hi:=h.lt i _ hg'
   have hR:=h.obj i _ hg'
   cases hq:owned oi with
   | true=>exact hR.of_block hq hle hi rfl
   | false =>
    cases oi with
    | tok L y =>
     refine TokRel.of_block hR hR.own (fun _=>rfl) (fun _ q=>q) (Nat.le_refl _) fun bb f t q1 q2=>?_
     obtain ⟨_,_,b',f',t',r1,r2⟩:=hR
     rw [r1] at q1; injection q1 with q1; injection q1 with e1 q1; injection q1 with e2 q1; injection q1 with e3 q1
     subst e1 e2 e3
     obtain ⟨a1,a2,_⟩:=r2 q2
     have hb:b'≠E.blk id:=fun e=>by rw [e,htb] at a2; cases a2
     exact ⟨rfl,fun oo _ _=>⟨rfl,by show (if b'=E.blk id then _ else _)=_; rw [if_neg hb]⟩⟩
    | _=>cases hq
 · have hv:(if b=E.blk id then w.cell? ⟨b,o,none⟩ else E.fz b o)=some v:=hv
   by_cases e:b=E.blk id
   · rw [if_pos e] at hv
     refine ⟨hv,fun i xi hg' ho=>?_⟩
     obtain ⟨hne,hg'⟩:=hk hg'
     rw [e]
     exact h.inj i id xi _ hg' hg hne ho hown
   · rw [if_neg e] at hv
     exact ⟨(h.frz b o v hv).1,fun i xi hg' ho=>(h.frz b o v hv).2 i xi (hk hg').2 ho⟩
theorem frz1_ok (n:Nat) {E:Env} {s:St H} {w:World} (h:WRel E s w) {c c':Value} (hv:VRel E c c'):∃ E',Frz n E E'∧VRel E' (frz1 n s c).1 c'∧WRel E' (frz1 n s c).2 w:=by
 unfold FS.frz1
 split
 next id o len cc =>
  split
  next hn =>
   split
   next l hl =>
    split
    next h1 =>
     obtain ⟨r,hr,ht⟩:=bsome hl
     have hg:H.get s.h id=some (.row r):=by
      unfold rowD at hr
      split at hr
      · rename_i cs hq; injection hr with hr; rw [hq,hr]
      · cases hr
     obtain ⟨hle,hW⟩:=h.frz1 hg
     have hid:=h.lt id _ hg
     have hR:=h.row hg
     refine ⟨_,⟨hle,rfl,rfl,rfl,rfl,fun b oo hne=>?_⟩,?_,hW⟩
     · refine ⟨id,hn.1,hid,hR.own,?_⟩
       by_cases e:b=E.blk id
       · exact e.symm
       · exact absurd (show (if b=E.blk id then w.cell? ⟨b,oo,none⟩ else E.fz b oo)=E.fz b oo from if_neg e) hne
     · obtain ⟨tl1,tl2⟩:=takeD_eq ht
       obtain ⟨j1,j2⟩:=chunkL_els (z:=cc / 2) (n:=len) (l:=l) tl2
       have hsz:(chunkL (cc / 2) len l).toArray.size=len:=by rw [List.size_toArray,chunkL_len]
       cases hv with
       | slice _ _ _ _ a cap _ hlc hx ha =>
        have key:∀ i j,i<len→j<cc / 2→∃ v',w.cell? ⟨E.blk id,E.off id+o+i*(cc / 2)+j,none⟩=some v'∧VRel E (elC (chunkL (cc / 2) len l).toArray i j) v':=by
         intro i j hi hj
         have hpos:len*(cc / 2)≠0:=by
          intro e
          rcases Nat.mul_eq_zero.1 e with e | e <;> omega
         have hlen:=takeD_len ht hpos
         have hix:i*(cc / 2)+j<len*(cc / 2):=by
          have:i*(cc / 2)+cc / 2≤len*(cc / 2):=by
           have:=Nat.mul_le_mul_right (cc / 2) (show i+1≤len from hi)
           rwa [Nat.add_mul,Nat.one_mul] at this
          omega
         obtain ⟨v',q1,q2⟩:=hR.cell (o+(i*(cc / 2)+j)) (by omega)
         refine ⟨v',?_,?_⟩
         · rw [← q1]; congr 2; omega
         · have e:elC (chunkL (cc / 2) len l).toArray i j=r[o+(i*(cc / 2)+j)]'(by omega):=by
            rw [elC_L]
            show elL (chunkL (cc / 2) len l) i j=_
            rw [j2 i j hi hj,tl1]
            simp only [List.getD,List.getElem?_take,List.getElem?_drop]
            rw [if_pos hix,List.getElem?_eq_getElem (by omega)]; rfl
           rw [e]; exact q2
        have hb:cap=0∨some a=some (⟨E.blk id,E.off id+o,none⟩:Addr):=by
         rcases ha with ha | ha
         · exact .inl ha
         · exact .inr (by rw [ha.2.1])
        have:=VRel.fz (E:=E.ice w (E.blk id)) 0 (chunkL (cc / 2) len l).toArray (cc / 2) (some a) cap (E.blk id) (E.off id+o) (fun i j=>(w.cell? ⟨E.blk id,E.off id+o+i*(cc / 2)+j,none⟩).getD (.bool true))
         (fun i hi=>j1 i (by rw [chunkL_len]; rw [hsz] at hi; exact hi)) (by rw [hsz]; exact hlc) hb
         (fun i j hi hj=>by
          rw [hsz] at hi
          obtain ⟨v',q1,_⟩:=key i j hi hj
          show (if E.blk id=E.blk id then _ else _)=_
          rw [if_pos rfl,q1]; rfl)
         (fun i j hi hj=>by
          rw [hsz] at hi
          obtain ⟨v',q1,q2⟩:=key i j hi hj
          rw [q1]; exact q2.mono hle)
         (fun i j hi hj=>by
          rw [hsz] at hi
          rw [elC_L]
          show oneC (elL (chunkL (cc / 2) len l) i j)=true
          rw [j2 i j hi hj]
          have hix:i*(cc / 2)+j<l.length:=by
            rw [tl2]
            have:=Nat.mul_le_mul_right (cc / 2) (show i+1≤len from hi)
            rw [Nat.add_mul,Nat.one_mul] at this
            omega
          simp only [List.getD,List.getElem?_eq_getElem hix,Option.getD_some]
          exact List.all_eq_true.1 h1 _ (List.getElem_mem hix))
         ⟨fun e=>by omega,fun e=>by omega⟩ (fun id e=>by omega)
        rw [hsz] at this
        exact this
    next=>exact ⟨E,.refl n E,hv,h⟩
   next=>exact ⟨E,.refl n E,hv,h⟩
  next=>exact ⟨E,.refl n E,hv,h⟩
 next=>exact ⟨E,.refl n E,hv,h⟩
theorem frzL_ok (n:Nat) {w:World} (f:St H→Value→Value×St H) (hf:∀ {E:Env} {s:St H} {c c':Value},WRel E s w→VRel E c c'→∃ E',Frz n E E'∧VRel E' (f s c).1 c'∧WRel E' (f s c).2 w):∀ (l:List Value) {l':List Value} {E:Env} {s:St H},WRel E s w→LRel E l l'→∃ E',Frz n E E'∧LRel E' (frzL f l s).1 l'∧WRel E' (frzL f l s).2 w
 | [],l',E,s,h,hl=>by
  obtain rfl:=hl.unnil
  exact ⟨E,.refl n E,.nil E,h⟩
 | c::l,l',E,s,h,hl=>by
  obtain ⟨c',l',rfl,hc,hl⟩:=hl.uncons
  obtain ⟨E1,a1,a2,a3⟩:=hf h hc
  obtain ⟨E2,b1,b2,b3⟩:=frzL_ok n f hf l a3 (hl.mono a1.1)
  exact ⟨E2,a1.trans b1,.cons (a2.mono b1.1) b2,b3⟩
theorem frz2_ok (n:Nat) {E:Env} {s:St H} {w:World} (h:WRel E s w) {c c':Value} (hv:VRel E c c'):∃ E',Frz n E E'∧VRel E' (frz2 n s c).1 c'∧WRel E' (frz2 n s c).2 w:=by
 unfold frz2
 split
 next a =>
  cases hv with
  | agg _ a' ha ra =>
   obtain ⟨E',b1,b2,b3⟩:=frzL_ok n (FS.frz1 n) (fun h hv=>frz1_ok n h hv) a.toList h (LRel.ofArr ha ra)
   have:=VRel.aggL b2
   rw [Array.toArray_toList] at this
   exact ⟨E',b1,this,b3⟩
 next=>exact frz1_ok n h hv
theorem frzT_ok (n:Nat) {E:Env} {s:St H} {w:World} (h:WRel E s w) {c c':Value} (hv:VRel E c c'):∃ E',Frz n E E'∧VRel E' (frzT n s c).1 c'∧WRel E' (frzT n s c).2 w:=by
 unfold frzT
 split
 next a =>
  cases hv with
  | dc v=>exact ⟨E,.refl n E,.dc _,h⟩
  | tuple _ a' ha ra =>
   obtain ⟨E',b1,b2,b3⟩:=frzL_ok n (frz2 n) (fun h hv=>frz2_ok n h hv) a.toList h (LRel.ofArr ha ra)
   have:=VRel.tupleL b2
   rw [Array.toArray_toList] at this
   exact ⟨E',b1,this,b3⟩
 next=>exact frz2_ok n h hv
theorem ans_frz {E:Env} {s1:St H} {w w1:World} {v v':Value} (hA:Ans E w v s1 v' w1):Ans E w (frzT E.n s1 v).1 (frzT E.n s1 v).2 v' w1:=by
 obtain ⟨E1,hv,hW1,hK⟩:=hA
 obtain ⟨E2,⟨a1,a2,a3,a4,a5,a6⟩,b1,b2⟩:=frzT_ok E.n hW1 hv
 refine ⟨E2,b1,b2,hK.le.trans a1,fun i h1 h2 h3=>?_,fun b hb=>hK.tbf b (by rw [← a3]; exact hb),hK.os,hK.tape,hK.output,hK.size,hK.block,fun b hb hn ht o=>?_⟩
 · rw [a5]; exact hK.fresh i h1 (by omega) (by rw [← a4]; exact h3)
 · by_cases e:E2.fz b o=E1.fz b o
   · rw [e]; exact hK.fzf b hb hn ht o
   · obtain ⟨id,c1,c2,c3,c4⟩:=a6 b o e
     rcases hK.fresh id c1 c2 c3 with ⟨j,d1,d2,d3⟩ | d1
     · exact absurd (d3.trans c4) (hn j d1 d2)
     · omega
theorem cut_ok0 {E:Env} {s s1 s2:St H} {w:World} (hW:WRel E s w) {fl:List (Option Nat)} {v v2 v':Value} {w1:World} (hA:Ans E w v s1 v' w1) (h:cutD0 fl s v s1=some (v2,s2)):Ans E w v2 s2 v' w1:=by
 obtain ⟨E1,hv,hW1,hK⟩:=hA
 unfold cutD0 at h
 split at h
 next hc =>
  obtain ⟨hn,hB,hfl⟩:=hc
  obtain ⟨k1,k2⟩:=mrg_ok hW hW1 hK hB
  have hn':s.n≤E1.n:=by rw [← hW.n]; exact hK.le.n
  rw [hW.n] at k1 k2
  have fin:∀ E',VRel E' v2 v'→WRel E' s2 w1→(E1.to s.n).Le E'→E'.fz=E1.fz→E'.tb=E1.tb→(∀ i,(E1.to s.n).n≤i→i<E'.n→E'.own i=false)→Ans E w v2 s2 v' w1:=by
   intro E' h1 h2 h3 h4 h5 h6
   refine ⟨E',h1,h2,k2.le.trans h3,fun i a b c=>?_,fun b hb=>hK.tbf b (by rw [← h5]; exact hb),hK.os,hK.tape,hK.output,hK.size,hK.block,fun b hb hn ht o=>by rw [h4]; exact hK.fzf b hb hn ht o⟩
   have:=h6 i (by show s.n≤i; rw [← hW.n]; exact a) b
   rw [this] at c; cases c
  split at h
  next a =>
   obtain ⟨q,hq,h⟩:=msome h
   injection h with h1 h2
   subst h1 h2
   cases hv with
   | dc v' =>
    -- a value of which nothing is said stays one
    have hL:LRel E1 [.nilFunc] [.nilFunc]:=.cons .nilFunc (.nil E1)
    obtain ⟨E',b1,b2,b3,b4,b5,b6⟩:=cutL_ok hW1 hn' [.nilFunc] [.nilFunc] fl (E1.to s.n) (mrg s s1) hL (.refl _) rfl rfl k1 ⟨hfl,.inl ⟨rfl,rfl⟩⟩ hq
    have hq1:q.1=[.nilFunc]:=by
     have hl:=b1.1
     match hq2:q.1,hl with
     | [x],_ =>
      have hx:=b1.2 0 (by rw [hq2]; simp) (by simp)
      simp only [hq2,List.getElem_cons_zero] at hx
      have hq3:((cutC s s1 (mrg s s1) (fl.headD none) .nilFunc).bind fun p=>(cutL s s1 fl.tail [] p.2).map fun q=>(p.1::q.1,q.2))=some q:=by cases fl <;> exact hq
      obtain ⟨p,hp,hq3⟩:=bsome hq3
      obtain ⟨r,hr,hq3⟩:=msome hq3
      unfold cutC at hp
      have hst:stripN 8 s.n .nilFunc=.nilFunc:=rfl
      rw [hst] at hp
      split at hp
      · split at hp
        · injection hp with hp
          rw [← hp] at hq3
          rw [← hq3] at hq2
          simp only [List.cons.injEq] at hq2
          rw [← hq2.1]
        · cases hp
      · cases hp
    exact fin E' (by rw [hq1]; exact .dc _) b2 b3 b4 b5 b6
   | tuple _ a' ha ra =>
    obtain ⟨E',b1,b2,b3,b4,b5,b6⟩:=cutL_ok hW1 hn' a.toList a'.toList fl (E1.to s.n) (mrg s s1) (LRel.ofArr ha ra) (.refl _) rfl rfl k1 ⟨hfl,.inl ⟨rfl,rfl⟩⟩ hq
    have:=VRel.tupleL b1
    rw [Array.toArray_toList] at this
    exact fin E' this b2 b3 b4 b5 b6
  next =>
   obtain ⟨E',b1,b2,b3,b4,b5,b6,_⟩:=cutC_ok hW1 hv hn' (.refl _) rfl rfl k1 (fun _=>⟨rfl,rfl⟩) h
   exact fin E' b1 b2 b3 b4 b5 b6
 next=>cases h
theorem cut_ok {E:Env} {s s1 s2:St H} {w:World} (hW:WRel E s w) {fl:List (Option Nat)} {v v2 v':Value} {w1:World} (hA:Ans E w v s1 v' w1) (h:cutD fl s v s1=some (v2,s2)):Ans E w v2 s2 v' w1:=by
 have:=ans_frz hA
 rw [hW.n] at this
 exact cut_ok0 hW this h
def IOk (P:Program) (I:Intr H):Prop:=∀ f i,I f=some i→∀ args s v s',i args s=some (v,s')→∀ E w (args':Array Value),WRel E s w→LRel E args args'.toList→FnOk P f args' w (Ans E w v s')
def Named (P : Program) : Prop := ∀ (f : Nat) (fn : Func), P.funcs[f]? = some fn → fn.body.isSome = true → (fn.name == "runtime.NumGoroutine") = false
theorem cutJ_ok {E:Env} {s:St H} {w:World} (hW:WRel E s w) {fl:List (Option Nat)} {L L2:List (Value×St H)} {v':Value} {w1:World} (hA:AnsL E w L v' w1) (h:cutJ fl s L=some L2):AnsL E w L2 v' w1:=by
 obtain ⟨p,hp,hq⟩:=hA
 unfold cutJ at h
 obtain ⟨L1,h1,h2⟩:=msome h
 obtain ⟨r',q1,q2⟩:=joinO_mem h1 _ (List.mem_map_of_mem hp)
 obtain ⟨q,q3,q4⟩:=msome q1
 subst q4
 have hmem:q∈L1:=q2 q (List.mem_singleton.2 rfl)
 have hc:=cut_ok hW hq (v2:=q.1) (s2:=q.2) q3
 have:q∈L2:=by
  rw [← h2]
  unfold mergeL
  split
  · exact hmem
  · rename_i a r
    split
    · rename_i hall
      cases hmem with
      | head=>exact List.mem_singleton.2 rfl
      | tail _ hm=>rw [hall q hm]; exact List.mem_singleton.2 rfl
    · exact hmem
 exact ⟨q,this,hc⟩
theorem fn_ok {A:Ann H} (hN:Named P) (hmix:P.follows .mixedOrders=true) {C:OracleJ H} (hC:COkJ P C) {f:FuncId} {fn:Func} (hf:P.funcs[f]?=some fn) {args:List Value} {s:St H} {L:List (Value×St H)}
 (h : (match A.cut f with
       | none=>bodyD P (A.row f) C A.N f fn args s
       | some fl=>(bodyD P (A.row f) C A.N f fn args s).bind fun L=>cutJ fl s L)=some L) {E:Env} {w:World} {args':Array Value} (hW:WRel E s w) (hA:LRel E args args'.toList):FnOk P f args' w (AnsL E w L):=by
 have key:∃ L0,bodyD P (A.row f) C A.N f fn args s=some L0∧∀ v' w',AnsL E w L0 v' w'→AnsL E w L v' w':=by
  cases hc:A.cut f with
  | none=>rw [hc] at h; exact ⟨L,h,fun _ _ q=>q⟩
  | some fl =>
   rw [hc] at h
   obtain ⟨p,hp,h⟩:=bsome h
   exact ⟨p,hp,fun v' w' q=>cutJ_ok hW q h⟩
 obtain ⟨L0,hb0,himp⟩:=key
 refine .inl ⟨?_,(body_sound hC hmix A.N hf hb0 hW hA).mono fun e W' hq=>?_⟩
 · have hb:fn.body.isSome=true:=by
    cases hb:fn.body with
    | some c=>rfl
    | none=>unfold bodyD at hb0; rw [hb] at hb0; cases hb0
   have hb2:fn.body.isNone=false:=by cases hx:fn.body <;> simp_all
   simp only [callFunc,Sem.run_bind,run_program,Result.andThen_ok,hf,hN f fn hf hb,hb2,Bool.false_eq_true,if_false]
   rfl
 · cases e with
   | returned v'=>exact himp v' W' hq
   | panicked c=>exact hq.elim
   | outgrown=>exact hq.elim
theorem call_sound {A:Ann H} (hI:IOk P A.i) (hN:Named P) (hmix:P.follows .mixedOrders=true):∀ n,COkJ P (callD P A n)
 | 0=>fun g args s L h=>by cases h
 | n+1=>by
  have ih:=call_sound hI hN hmix n
  intro g args s L h E w args' hW hA
  cases g with
  | yld l=>exact fun hl=>round_sound ih hmix A.N l h hW hA hl
  | fn f =>
   have h:(match A.i f with
    | some i=>(i args s).map fun p=>[p]
    | none=>match P.funcs[f]? with
     | none=>none
     | some fn=>match A.cut f with
      | none=>bodyD P (A.row f) (callD P A n) A.N f fn args s
      | some fl=>(bodyD P (A.row f) (callD P A n) A.N f fn args s).bind fun L=>cutJ fl s L)=some L:=h
   cases hi:A.i f with
   | some i =>
    rw [hi] at h
    obtain ⟨p,hp,h⟩:=msome h
    subst h
    exact (hI f i hi args s p.1 p.2 hp E w args' hW hA).mono fun v' w' q=>⟨p,List.mem_singleton.2 rfl,q⟩
   | none =>
    rw [hi] at h
    cases hf:P.funcs[f]? with
    | none=>rw [hf] at h; cases h
    | some fn =>
     rw [hf] at h
     exact fn_ok hN hmix ih hf h hW hA
end Go.FS
