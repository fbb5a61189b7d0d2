import Derived.Test.YtmhmbmogodofeaaFm
namespace Go.FS
open Go.RowKit
variable {P:Program} {H:HeapI}
theorem elC_mem {arr:Array Value} {z:Nat} (hz:∀ i,i<arr.size→∃ c,arr.toList[i]?=some (.agg c)∧c.size=z) {p:Value→Prop} (h:∀ i j,i<arr.size→j<z→p (elC arr i j)):∀ x∈arr.toList,∃ c,x=.agg c∧∀ y∈c.toList,p y:=by
 intro x hx
 obtain ⟨i,hi,rfl⟩:=List.getElem_of_mem hx
 have hi':i<arr.size:=by simpa using hi
 obtain ⟨c,hc,hcz⟩:=hz i hi'
 rw [List.getElem?_eq_getElem hi] at hc
 injection hc with hc
 refine ⟨c,hc,fun y hy=>?_⟩
 obtain ⟨j,hj,rfl⟩:=List.getElem_of_mem hy
 have hj':j<z:=by rw [← hcz]; simpa using hj
 have:=h i j hi' hj'
 have e:elC arr i j=c.toList[j]:=by
  unfold elC
  rw [List.getElem?_eq_getElem hi,hc]
  simp only [List.getD,List.getElem?_eq_getElem hj,Option.getD_some]
 rw [e] at this; exact this
theorem VRel.bel {E:Env} {v v':Value} (h:VRel E v v'):Bel E.n v:=by
 induction h with
 | dc v=>exact .tuple _ (fun x hx=>by simp at hx; subst hx; exact .nilFunc)
 | bool b=>exact .bool b
 | int k n=>exact .int k n
 | string b=>exact .string b
 | nilFunc=>exact .nilFunc
 | nilIface=>exact .nilIface
 | nilPtr=>exact .nilPtr
 | nilMap=>exact .nilMap
 | nilSlice=>exact .nilSlice
 | ptr id o h=>exact .ptr id o h
 | slice id o len c a cap hid hl hx ha=>exact .slice id o len c hid
 | map id h=>exact .map id h
 | func f a a' b b' ha hb _ _ iha ihb =>
  refine .func f a b (fun x hx=>?_) (fun x hx=>?_)
  · obtain ⟨i,hi,rfl⟩:=List.getElem_of_mem hx
    have hi':i<a.size:=by simpa using hi
    simpa using iha i hi' (ha ▸ hi')
  · obtain ⟨i,hi,rfl⟩:=List.getElem_of_mem hx
    have hi':i<b.size:=by simpa using hi
    simpa using ihb i hi' (hb ▸ hi')
 | yld l h=>exact .yld l h
 | agg a a' ha _ ih =>
  refine .agg a (fun x hx=>?_)
  obtain ⟨i,hi,rfl⟩:=List.getElem_of_mem hx
  have hi':i<a.size:=by simpa using hi
  simpa using ih i hi' (ha ▸ hi')
 | tuple a a' ha _ ih =>
  refine .tuple a (fun x hx=>?_)
  obtain ⟨i,hi,rfl⟩:=List.getElem_of_mem hx
  have hi':i<a.size:=by simpa using hi
  simpa using ih i hi' (ha ▸ hi')
 | fz m arr z base cap b o f hz hl hb hf _ h1 hx ht ih =>
  refine .fz m arr ?_ (fun x hx=>?_)
  · match m,ht with
    | 0,_=>omega
    | 1,_=>omega
    | 2,_=>omega
    | id+3,ht=>have:=(ht id rfl).1; omega
  · obtain ⟨c,rfl,hc⟩:=elC_mem hz ih x hx
    exact .agg c hc
 | fp cs o b p f hf _ ih =>
  refine .fp o cs (fun x hx=>?_)
  obtain ⟨i,hi,rfl⟩:=List.getElem_of_mem hx
  have hi':i<cs.size:=by simpa using hi
  simpa using ih i hi'
 | gp g o=>exact .gp g o
 | iface t v v' h _ ih=>exact .iface t v h ih
def Env.to (E:Env) (n:Nat):Env:={ E with n:=n }
theorem Bel.tup {n:Nat} {a:Array Value} (h:Bel n (.tuple a)):∀ x∈a.toList,Bel n x:=by
 cases h with
 | tuple _ h=>exact h
theorem Bel.aggs {n:Nat} {a:Array Value} (h:Bel n (.agg a)):∀ x∈a.toList,Bel n x:=by
 cases h with
 | agg _ h=>exact h
theorem VRel.to {E:Env} {n:Nat} {v v':Value} (h:VRel E v v') (hB:Bel n v):VRel (E.to n) v v':=by
 induction h with
 | dc v=>exact .dc v
 | bool b=>exact .bool b
 | int k n=>exact .int k n
 | string b=>exact .string b
 | nilFunc=>exact .nilFunc
 | nilIface=>exact .nilIface
 | nilPtr=>exact .nilPtr
 | nilMap=>exact .nilMap
 | nilSlice=>exact .nilSlice
 | ptr id o h=>cases hB with
  | ptr _ _ h=>exact .ptr (E:=E.to n) id o h
 | slice id o len c a cap hid hl hx ha=>cases hB with
  | slice _ _ _ _ h=>exact .slice (E:=E.to n) id o len c a cap h hl hx (ha.imp_right fun q=>⟨h,q.2⟩)
 | map id h=>cases hB with
  | map _ h=>exact .map (E:=E.to n) id h
 | func f a a' b b' ha hb _ _ iha ihb=>cases hB with
  | func _ _ _ h1 h2=>exact .func f a a' b b' ha hb (fun i x y=>iha i x y (h1 _ (by simp))) (fun i x y=>ihb i x y (h2 _ (by simp)))
 | yld l h=>cases hB with
  | yld _ h=>exact .yld (E:=E.to n) l h
 | agg a a' ha _ ih=>exact .agg a a' ha (fun i x y=>ih i x y (hB.aggs _ (by simp)))
 | tuple a a' ha _ ih=>exact .tuple a a' ha (fun i x y=>ih i x y (hB.tup _ (by simp)))
 | fz m arr z base cap b o f hz hl hb hf _ h1 hx ht ih =>
  have key:m<n+3∧∀ x∈arr.toList,Bel n x:=by
   cases hB with
   | fz _ _ hm ha=>exact ⟨hm,ha⟩
   | fp _ a ha =>
    obtain ⟨c,hc,_⟩:=hz 0 (by simp)
    simp at hc
   | gp g o =>
    obtain ⟨c,hc,_⟩:=hz 0 (by simp)
    simp at hc
   | iface _ _ h _=>cases h
  refine .fz (E:=E.to n) m arr z base cap b o f hz hl hb hf (fun i j hi hj=>ih i j hi hj ?_) h1 hx (fun id e=>?_)
  · obtain ⟨c,hc,hcz⟩:=hz i hi
    have hlt:i<arr.toList.length:=by simpa using hi
    have hmem:Value.agg c∈arr.toList:=List.mem_of_getElem? hc
    have:=(key.2 _ hmem).aggs
    have hj':j<c.toList.length:=by rw [← hcz] at hj; simpa using hj
    have e:elC arr i j=c.toList[j]:=by
     unfold elC; rw [hc]; simp only [List.getD,List.getElem?_eq_getElem hj',Option.getD_some]
    rw [e]; exact this _ (List.getElem_mem hj')
  · exact ⟨by have:=key.1; show id<n; omega,(ht id e).2⟩
 | fp cs o b p f hf _ ih =>
  have key:∀ x∈cs.toList,Bel n x:=by
   cases hB with
   | fz _ _ hm ha=>exact (ha _ (by simp)).tup
   | fp _ a ha=>exact ha
   | iface _ _ h _=>cases h
  exact .fp (E:=E.to n) cs o b p f hf (fun j hj=>ih j hj (key _ (by simp)))
 | gp g o=>exact .gp g o
 | iface t v v' h _ ih=>cases hB with
  | fz _ _ _ _=>cases h
  | fp _ _ _=>cases h
  | gp _ _=>cases h
  | iface _ _ _ hv=>exact .iface t v v' h (ih hv)
def BelO2 (n:Nat):DObj→Prop
 | .row cs=>∀ x∈cs,Bel n x
 | .tok _ _=>True
 | .map es _=>∀ e∈es,Bel n e.1∧Bel n e.2.1
 | .iter m _ _ _=>∀ x,m=some x→x<n
 | .loop _ _ _ t _ _ _=>∀ x∈t,Bel n x
theorem BelO.two {n:Nat} {o:DObj} (h:BelO n (some o)):BelO2 n o:=by
 cases o <;> first | exact h | exact h.elim
theorem LRel.bel {E:Env} {l l':List Value} (h:LRel E l l'):∀ x∈l,Bel E.n x:=fun x hx=>by
 obtain ⟨i,hi,rfl⟩:=List.getElem_of_mem hx
 exact (h.2 i hi (h.1 ▸ hi)).bel
theorem LRel.to {E:Env} {n:Nat} {l l':List Value} (h:LRel E l l') (hB:∀ x∈l,Bel n x):LRel (E.to n) l l':=⟨h.1,fun i a b=>(h.2 i a b).to (hB _ (List.getElem_mem a))⟩
theorem ORel'.bel {E:Env} {w:World} {i:Nat} {o:DObj} (h:ORel' E w i o):BelO2 E.n o:=by
 cases o with
 | row cs =>
  intro x hx
  obtain ⟨j,hj,rfl⟩:=List.getElem_of_mem hx
  obtain ⟨v',_,hr⟩:=RowRel.cell h j hj
  exact hr.bel
 | tok=>trivial
 | map es c =>
  obtain ⟨_,es',_,hE⟩:=h
  intro e he
  obtain ⟨j,hj,rfl⟩:=List.getElem_of_mem he
  obtain ⟨h1,h2,_⟩:=hE.2 j hj (hE.1 ▸ hj)
  exact ⟨h1.bel,h2.bel⟩
 | iter m a b c=>exact IterRel.lt h
 | loop st pe fn t ps as bo =>
  obtain ⟨_,r,_,_,_,h5,_⟩:=h
  exact h5.bel
theorem ORel'.to {E:Env} {w:World} {n i:Nat} {o:DObj} (h:ORel' E w i o) (hB:BelO2 n o):ORel' (E.to n) w i o:=by
 cases o with
 | row cs =>
  have h:RowRel E w i cs:=h
  exact ⟨h.shape,h.room,fun j hj=>by
   obtain ⟨v',h1,hr⟩:=h.cell j hj
   exact ⟨v',h1,hr.to (hB _ (List.getElem_mem hj))⟩,h.own,h.free⟩
 | tok L z =>
  have h:TokRel E w i L z:=h
  exact ⟨h.own,h.top,h.is⟩
 | map es c =>
  obtain ⟨h0,es',h1,hE⟩:=h
  exact ⟨h0,es',h1,hE.1,fun j a b=>⟨(hE.2 j a b).1.to (hB _ (List.getElem_mem a)).1,(hE.2 j a b).2.1.to (hB _ (List.getElem_mem a)).2,(hE.2 j a b).2.2⟩⟩
 | iter m a b c =>
  have h:IterRel E w i m a b c:=h
  exact ⟨h.own,h.at0,hB,h.is⟩
 | loop st pe fn t ps as bo =>
  obtain ⟨h0,r,h1,h2,h3,h5,h6⟩:=h
  exact ⟨h0,r,h1,h2,h3,h5.to hB,h6⟩
theorem mrg_get (s s':St H) (i:Nat):H.get (mrg s s').h i=if i<s.n then H.get s'.h i else H.get s.h i:=mrgH_get s.n s'.h s.h i
theorem mrg_ok {E E1:Env} {s s1:St H} {w w1:World} (hW:WRel E s w) (hW1:WRel E1 s1 w1) (hK:Keep E w E1 w1) (hB:∀ i,i<s.n→H.get s1.h i=H.get s.h i∨BelO s.n (H.get s1.h i)) :
 WRel (E1.to E.n) (mrg s s1) w1∧Keep E w (E1.to E.n) w1:=by
 have hle:E.Le (E1.to E.n):=⟨Nat.le_refl _,hK.le.blk,hK.le.off,hK.le.sz,hK.le.own,hK.le.fz,hK.le.tk,hK.le.tb⟩
 have hget:∀ {i o},H.get (mrg s s1).h i=some o→i<E.n∧H.get s1.h i=some o:=fun {i o} hg=>by
  rw [mrg_get] at hg
  split at hg
  · rename_i h; exact ⟨by rw [hW.n]; exact h,hg⟩
  · rename_i h
    have:=hW.lt i o hg
    rw [hW.n] at this
    exact absurd this h
 have hn:=hK.le.n
 refine ⟨⟨hW.n,fun i hi ho=>hW1.blt i (Nat.lt_of_lt_of_le hi hn) ho,fun i o hg=>(hget hg).1,fun i j oi oj hi hj=>hW1.inj i j oi oj (hget hi).2 (hget hj).2,fun i o hg=>?_,
  fun i j L z L' z' b f t f' t' hi hj=>hW1.tinj i j L z L' z' b f t f' t' (hget hi).2 (hget hj).2,fun i o hg=>hW1.tbo i o (hget hg).2,fun b o v hv=>⟨(hW1.frz b o v hv).1,fun i x hg=>(hW1.frz b o v hv).2 i x (hget hg).2⟩,hW1.tbl,fun g cs hg j hj=>?_⟩,?_⟩
 · obtain ⟨hi,hg1⟩:=hget hg
   refine (hW1.obj i o hg1).to ?_
   rcases hB i (by rw [← hW.n]; exact hi) with h | h
   · rw [hg1] at h
     exact (hW.obj i o h.symm).bel
   · rw [hg1] at h
     rw [hW.n]
     exact h.two
 · obtain ⟨v',q1,q2⟩:=hW1.glb g cs hg j hj
   obtain ⟨v2,_,q4⟩:=hW.glb g cs hg j hj
   exact ⟨v',q1,q2.to q4.bel⟩
 · exact ⟨hle,fun i a b=>absurd b (Nat.not_lt_of_le a),hK.tbf,hK.os,hK.tape,hK.output,hK.size,hK.block,hK.fzf⟩
def Env.tokR (E:Env) (L:Nat) (r:Nat×Nat×Nat×Nat):Env where
 n:=E.n+1
 blk:=E.blk
 off:=E.off
 sz:=E.sz
 own:=fun k=>if k=E.n then false else E.own k
 fz:=E.fz
 tk:=fun k=>if k=E.n then fun L'=>if L'=L then some r else none else E.tk k
 tb:=E.tb
theorem Env.le_tokR (E:Env) (L:Nat) (r:Nat×Nat×Nat×Nat):E.Le (E.tokR L r) :=
 ⟨Nat.le_succ _,fun i _=>rfl,fun i _=>rfl,fun i _=>rfl,fun i hi=>by simp only [Env.tokR]; rw [if_neg (by omega)],fun _ _ _ h=>h,fun i hi L' r h=>by simp only [Env.tokR]; rw [if_neg (by omega)]; exact h,fun _ h=>h⟩
theorem tokR_ok {E:Env} {s:St H} {w:World} (h:WRel E s w) {L z b f t:Nat}
 (hreg:f<t→b<w.heap.size∧E.tb b=true∧(∃ e n,w.shape? b=some (e,n)∧t≤n)∧∀ o,f≤o→o<t→w.frozen? ⟨b,o,none⟩=false∧E.fz b o=none)
 (hoth:∀ j L' z' f' t',H.get s.h j=some (.tok L' z')→E.tk j L'=some (b,f',t',z')→f'<t'→f<t→False) :
 WRel (E.tokR L (b,f,t,z)) (newD s (.tok L z)) w∧Keep E w (E.tokR L (b,f,t,z)) w:=by
 have hle:=E.le_tokR L (b,f,t,z)
 have hget:∀ i,H.get (newD s (.tok L z)).h i=if i=E.n then some (.tok L z) else H.get s.h i:=fun i=>by simp only [newD,H.get_put,h.n]
 have hownN:(E.tokR L (b,f,t,z)).own E.n=false:=by simp [Env.tokR]
 have htk:∀ i,i<E.n→(E.tokR L (b,f,t,z)).tk i=E.tk i:=fun i hi=>by simp only [Env.tokR]; rw [if_neg (by omega)]
 have htkN:∀ L',(E.tokR L (b,f,t,z)).tk E.n L'=if L'=L then some (b,f,t,z) else none:=fun L'=>by simp [Env.tokR]
 constructor
 · refine ⟨by simp [newD,h.n,Env.tokR],fun i hi ho=>?_,fun i oi hg=>?_,fun i j oi oj hi hj hij ho ho'=>?_,fun i oi hg=>?_,fun i j L1 y L' y' bb f1 t1 f' t' hi hj hij q1 q2 q3 q4=>?_,fun i oi hg ho=>?_,fun bb oo v hv=>?_,h.tbl,fun g cs hg=>(h.glb g cs hg).mono hle⟩
   · by_cases e:i=E.n
     · subst e; rw [hownN] at ho; cases ho
     · have hi':i<E.n:=by have:i<E.n+1:=hi; omega
       exact h.blt i hi' (by rw [← hle.own i hi']; exact ho)
   · rw [hget] at hg
     by_cases e:i=E.n
     · subst e; exact Nat.lt_succ_self _
     · rw [if_neg e] at hg; exact Nat.lt_succ_of_lt (h.lt i oi hg)
   · rw [hget] at hi hj
     by_cases e:i=E.n
     · subst e; rw [hownN] at ho; cases ho
     · by_cases e2:j=E.n
       · subst e2; rw [hownN] at ho'; cases ho'
       · rw [if_neg e] at hi
         rw [if_neg e2] at hj
         exact h.inj i j oi oj hi hj hij (by rw [← hle.own i (h.lt i oi hi)]; exact ho) (by rw [← hle.own j (h.lt j oj hj)]; exact ho')
   · rw [hget] at hg
     by_cases e:i=E.n
     · subst e; rw [if_pos rfl] at hg; injection hg with hg; subst hg
       exact ⟨hownN,fun L' hL=>by rw [htkN,if_neg (by omega)],b,f,t,by rw [htkN,if_pos rfl],hreg⟩
     · rw [if_neg e] at hg
       have hi':=h.lt i _ hg
       have hR:=h.obj i oi hg
       cases hq:owned oi with
       | true=>exact hR.of_block hq hle hi' rfl
       | false =>
        cases oi with
        | tok L1 y=>exact TokRel.of_block hR (by rw [hle.own i hi']; exact hR.own) (fun L'=>by rw [htk i hi']) (fun _ q=>q) (Nat.le_refl _) fun bb f t q1 q2=>⟨rfl,fun oo _ _=>⟨rfl,rfl⟩⟩
        | _=>cases hq
   · rw [hget] at hi hj
     by_cases e:i=E.n
     · subst e
       rw [if_pos rfl] at hi; injection hi with hi; injection hi with e3 e4; subst e3 e4
       rw [htkN,if_pos rfl] at q1
       injection q1 with q1; injection q1 with e1 q1; injection q1 with e2 q1; injection q1 with e3 q1
       subst e1 e2 e3
       have e2:j≠E.n:=fun e2=>hij e2.symm
       rw [if_neg e2] at hj
       rw [htk j (h.lt j _ hj)] at q3
       exact hoth j L' y' f' t' hj q3 q4 q2
     · rw [if_neg e] at hi
       rw [htk i (h.lt i _ hi)] at q1
       by_cases e2:j=E.n
       · subst e2
         rw [if_pos rfl] at hj; injection hj with hj; injection hj with e3 e4; subst e3 e4
         rw [htkN,if_pos rfl] at q3
         injection q3 with q3; injection q3 with e1 q3; injection q3 with e2 q3; injection q3 with e3 q3
         subst e1 e2 e3
         exact hoth i L1 y f1 t1 hi q1 q2 q4
       · rw [if_neg e2] at hj
         rw [htk j (h.lt j _ hj)] at q3
         exact h.tinj i j L1 y L' y' bb f1 t1 f' t' hi hj hij q1 q2 q3 q4
   · rw [hget] at hg
     by_cases e:i=E.n
     · subst e; rw [hownN] at ho; cases ho
     · rw [if_neg e] at hg; exact h.tbo i oi hg (by rw [← hle.own i (h.lt i oi hg)]; exact ho)
   · obtain ⟨h1,h2⟩:=h.frz bb oo v hv
     refine ⟨h1,fun i xi hg ho=>?_⟩
     rw [hget] at hg
     by_cases e:i=E.n
     · subst e; rw [hownN] at ho; cases ho
     · rw [if_neg e] at hg; exact h2 i xi hg (by rw [← hle.own i (h.lt i xi hg)]; exact ho)
 · refine ⟨hle,fun i a b c=>?_,fun _ h=>.inl h,rfl,rfl,rfl,Nat.le_refl _,fun _ _ _ _=>rfl,fun _ _ _ _ _=>rfl⟩
   have:i=E.n:=by have:i<E.n+1:=b; omega
   subst this; rw [hownN] at c; cases c
theorem oneC_strip (k n:Nat) (v:Value):oneC (stripN k n v)=oneC v:=by
 cases k with
 | zero=>rfl
 | succ k =>
  unfold stripN
  split
  · split <;> rfl
  · rfl
  · rfl
theorem strip_rel {E:Env} (n:Nat):∀ (k:Nat) {v v':Value},VRel E v v'→VRel E (stripN k n v) v':=by
 intro k
 induction k using Nat.strongRecOn with
 | _ k ih =>
  intro v v' h
  cases k with
  | zero=>exact h
  | succ k =>
   have ihk:=fun {v v'}=>@ih k (Nat.lt_succ_self k) v v'
   unfold stripN
   split
   · rename_i m a
     split
     · rename_i cs hc
       obtain ⟨b,p,f,rfl,hf,hr⟩:=h.fp_inv hc
       refine .fp _ m b p f (fun j hj=>hf j (by simpa using hj)) (fun j hj=>?_)
       have hj':j<cs.size:=by simpa using hj
       simpa using ihk (hr j hj')
     · exact h
     · rename_i hl hl2
       have hfz:isFz a=true:=by
        cases h with
        | fz _ _ z base cap b o f hz hl hb hf hr h1 hx ht =>
         unfold isFz
         cases ha:a.toList with
         | nil=>rfl
         | cons x l =>
          obtain ⟨c,hc,_⟩:=hz 0 (by rw [← Array.length_toList,ha]; simp)
          rw [ha] at hc
          simp only [List.getElem?_cons_zero,Option.some.injEq] at hc
          subst hc; rfl
        | fp cs o b p f hf hr=>exact absurd rfl (hl cs)
        | gp g o=>exact absurd rfl (hl2 _ _)
        | iface t v v' h hr=>cases h
       obtain ⟨z,base,cap,b,o,f,rfl,hz,hle,hb,hf,hr,h1,hx,ht⟩:=h.fz_inv hfz
       have hsz:(a.toList.map (stripN k n)).toArray.size=a.size:=by simp
       have hel:∀ i j,elC (a.toList.map (stripN k n)).toArray i j=elC a i j∨∃ k',k'<k∧(i<a.size→j<z→elC (a.toList.map (stripN k n)).toArray i j=stripN k' n (elC a i j)):=by
        intro i j
        cases k with
        | zero =>
         left
         unfold elC
         simp [stripN]
        | succ k' =>
         right
         refine ⟨k',Nat.lt_succ_self _,fun hi hj=>?_⟩
         obtain ⟨c,hc,hcz⟩:=hz i hi
         unfold elC
         have hj':j<c.toList.length:=by rw [← hcz] at hj; simpa using hj
         simp only [List.getElem?_map,hc,Option.map_some,stripN]
         simp only [List.getD]
         rw [List.getElem?_map,List.getElem?_eq_getElem hj']
         simp
       rw [← hsz]
       refine .fz _ _ z base cap b o f (fun i hi=>?_) (by rw [hsz]; exact hle) hb (fun i j hi hj=>hf i j (by rw [← hsz]; exact hi) hj) (fun i j hi hj=>?_) (fun i j hi hj=>?_) ?_ (fun id e=>?_)
       · rw [hsz] at hi
         obtain ⟨c,hc,hcz⟩:=hz i hi
         cases k with
         | zero=>exact ⟨c,by simpa [stripN] using hc,hcz⟩
         | succ k'=>exact ⟨(c.toList.map (stripN k' n)).toArray,by simp only [List.getElem?_map,hc,Option.map_some,stripN],by simpa using hcz⟩
       · rw [hsz] at hi
         rcases hel i j with e | ⟨k',hk',e⟩
         · rw [e]; exact hr i j hi hj
         · rw [e hi hj]; exact ih k' (by omega) (hr i j hi hj)
       · rw [hsz] at hi
         rcases hel i j with e | ⟨k',hk',e⟩
         · rw [e]; exact h1 i j hi hj
         · rw [e hi hj,oneC_strip]; exact h1 i j hi hj
       · rw [hsz]
         cases hq:Nat.blt m (n+3) with
         | true=>exact hx
         | false=>exact ⟨fun e=>by simp at e,fun e=>by simp at e⟩
       · rw [hsz]
         cases hq:Nat.blt m (n+3) with
         | true=>rw [hq] at e; exact ht id e
         | false=>rw [hq] at e; simp only [cond_false] at e; omega
   · rename_i a
     cases h with
     | agg _ a' ha ra =>
      have:VRel E (.agg (a.toList.map (stripN k n)).toArray) (.agg a'.toList.toArray):=VRel.aggL ⟨by simpa using ha,fun i x y=>by
        have hx:i<a.size:=by simpa using x
        simpa using ihk (ra i hx (ha ▸ hx))⟩
      simpa using this
   · exact h
theorem strip_tok {k n m:Nat} {a b:Array Value} {m':Nat} (h:stripN (k+1) n (.iface m (.tuple a))=.iface m' (.tuple b)) (hb:isFz b=true):m'=(bif Nat.blt m (n+3) then m else 0)∧b.size=a.size:=by
 unfold stripN at h
 split at h
 · rename_i m2 a2 h2
   injection h2 with e1 e2
   injection e2 with e2
   subst e1 e2
   split at h
   · rename_i cs hc
     unfold fpV at h
     injection h with _ h
     injection h with h
     subst h
     cases hb
   · rename_i hc
     injection h with _ h
     injection h with h
     subst h
     unfold isFz at hb
     rw [hc] at hb
     cases hb
   · unfold fzV at h
     injection h with h1 h
     injection h with h
     exact ⟨h1.symm,by rw [← h]; simp⟩
 · rename_i h2; cases h2
 · rename_i h2 _; exact absurd rfl (h2 _ _)
theorem cutC_ok {E1 Es:Env} {s s1 st st':St H} {w1:World} {own:Option Nat} {c c' c2:Value} (hW1:WRel E1 s1 w1) (hv:VRel E1 c c') (hn:s.n≤E1.n) (hle:(E1.to s.n).Le Es) (hfz:Es.fz=E1.fz) (htb:Es.tb=E1.tb)
 (hWs:WRel Es st w1) (hst:own.isSome=true→st=mrg s s1∧Es=E1.to s.n) (h:cutC s s1 st own c=some (c2,st')) :
 ∃ E',VRel E' c2 c'∧WRel E' st' w1∧Es.Le E'∧E'.fz=E1.fz∧E'.tb=E1.tb∧(∀ i,Es.n≤i→i<E'.n→E'.own i=false)∧(own=none→st'=st∧E'=Es):=by
 unfold cutC at h
 have hs:=strip_rel (E:=E1) s.n 8 hv
 split at h
 · split at h
   · rename_i hB
     injection h with h
     injection h with h1 h2
     subst h1 h2
     exact ⟨Es,(hs.to hB).mono hle,hWs,.refl Es,hfz,htb,fun i a b=>absurd b (Nat.not_lt_of_le a),fun _=>⟨rfl,rfl⟩⟩
   · cases h
 · rename_i z
   obtain ⟨rfl,rfl⟩:=hst rfl
   split at h
   · rename_i m' a m a0 hsa
     split at h
     · rename_i hc
       obtain ⟨c1,c2',c3⟩:=hc
       obtain ⟨e1,e2⟩:=strip_tok hsa (fzOk_is c1)
       rw [hsa] at hs
       -- the value with a token of any name
       have mk:∀ (E':Env) (id:Nat),(E1.to s.n).Le E'→(∃ (zz:Nat) (base:Option Addr) (cap b o:Nat) (f:Nat→Nat→Value),c'=.slice base a.size cap∧(∀ i,i<a.size→∃ c,a.toList[i]?=some (.agg c)∧c.size=zz)∧a.size≤cap∧(cap=0∨base=some ⟨b,o,none⟩)∧(∀ i j,i<a.size→j<zz→E1.fz b (o+i*zz+j)=some (f i j))∧(∀ i j,i<a.size→j<zz→VRel E1 (elC a i j) (f i j))∧(∀ i j,i<a.size→j<zz→oneC (elC a i j)=true) ∧
        id<E'.n∧∃ r,E'.tk id a.size=some r∧(cap=a.size∨(0<zz∧r=(b,o+a.size*zz,o+cap*zz,zz))))→VRel E' (fzV (id+3) a) c':=by
        intro E' id hle' hh
        obtain ⟨zz,base,cap,b,o,f,rfl,hz,hl,hb,hf,hr,h1,hid,r,hr1,hr2⟩:=hh
        refine .fz (id+3) a zz base cap b o f hz hl hb (fun i j hi hj=>hle'.fz _ _ _ (hf i j hi hj)) (fun i j hi hj=>((hr i j hi hj).to ?_).mono hle') h1 ⟨fun e=>by omega,fun e=>by omega⟩ (fun id' e=>?_)
        · obtain ⟨c,hc,hcz⟩:=hz i hi
          have hmem:Value.agg c∈a.toList:=List.mem_of_getElem? hc
          have:=(c3 _ hmem).aggs
          have hj':j<c.toList.length:=by rw [← hcz] at hj; simpa using hj
          have e:elC a i j=c.toList[j]:=by
           unfold elC; rw [hc]; simp only [List.getD,List.getElem?_eq_getElem hj',Option.getD_some]
          rw [e]; exact this _ (List.getElem_mem hj')
        · have:id'=id:=by omega
          subst this
          exact ⟨hid,r,hr1,hr2⟩
       obtain ⟨zz,base,cap,b,o,f,hcc,hz,hl,hb,hf,hr,h1,hx,ht⟩:=hs.fz_inv (fzOk_is c1)
       split at h
       · cases h
       · -- no room
         injection h with h
         injection h with h1' h2'
         subst h1' h2'
         have hm1:m'=1:=by
          rw [e1]
          have:Nat.blt 1 (s.n+3)=true:=Nat.ble_eq_true_of_le (by omega)
          rw [this]; rfl
         have hcap:=hx.1 hm1
         obtain ⟨k1,k2⟩:=tokR_ok (E:=E1.to s.n) hWs (L:=a.size) (z:=z) (b:=0) (f:=0) (t:=0) (fun h=>absurd h (Nat.lt_irrefl 0)) (fun _ _ _ _ _ _ _ _ h=>absurd h (Nat.lt_irrefl 0))
         refine ⟨_,mk _ (mrg s s1).n k2.le ⟨zz,base,cap,b,o,f,hcc,hz,hl,hb,hf,hr,h1,?_,(0,0,0,z),?_,.inl hcap⟩,k1,k2.le,rfl,rfl,fun i a b=>?_,fun h=>by cases h⟩
         · show s.n<s.n+1; omega
         · simp [Env.tokR,Env.to,mrg]
         · have:i=s.n:=by have b:i<s.n+1:=b; have a:s.n≤i:=a; omega
           subst this
           show (if s.n=s.n then _ else _)=_
           rw [if_pos rfl]
       · -- nil
         injection h with h
         injection h with h1' h2'
         subst h1' h2'
         have hm2:m'=2:=by
          rw [e1]
          have:Nat.blt 2 (s.n+3)=true:=Nat.ble_eq_true_of_le (by omega)
          rw [this]; rfl
         have hcap:cap=a.size:=by have:=(hx.2 hm2).2; omega
         obtain ⟨k1,k2⟩:=tokR_ok (E:=E1.to s.n) hWs (L:=a.size) (z:=z) (b:=0) (f:=0) (t:=0) (fun h=>absurd h (Nat.lt_irrefl 0)) (fun _ _ _ _ _ _ _ _ h=>absurd h (Nat.lt_irrefl 0))
         refine ⟨_,mk _ (mrg s s1).n k2.le ⟨zz,base,cap,b,o,f,hcc,hz,hl,hb,hf,hr,h1,?_,(0,0,0,z),?_,.inl hcap⟩,k1,k2.le,rfl,rfl,fun i a b=>?_,fun h=>by cases h⟩
         · show s.n<s.n+1; omega
         · simp [Env.tokR,Env.to,mrg]
         · have:i=s.n:=by have b:i<s.n+1:=b; have a:s.n≤i:=a; omega
           subst this
           show (if s.n=s.n then _ else _)=_
           rw [if_pos rfl]
       · rename_i id
         by_cases htk:tokD s1 id=some (a.size,z)
         · rw [if_pos htk] at h
           have hg:=tokD_eq htk
           have hT:TokRel E1 w1 id a.size z:=hW1.obj id _ hg
           -- what the token's room is
           obtain ⟨zz0,base0,cap0,b0,o0,f0,hcc0,_,_,_,_,_,_,_,ht0⟩:=hv.fz_inv (fzOk_is c2')
           by_cases hlt:id<s.n
           · rw [if_pos hlt] at h
             have hlt':@LT.lt Nat instLTNat id s.n:=hlt
             injection h with h
             injection h with h1' h2'
             subst h1' h2'
             have hm2:m'=id+3:=by
              rw [e1]
              have:Nat.blt (id+3) (s.n+3)=true:=Nat.ble_eq_true_of_le (by omega)
              rw [this]; rfl
             obtain ⟨q1,r,q2,q3⟩:=ht id hm2
             exact ⟨E1.to s.n,mk _ id (.refl _) ⟨zz,base,cap,b,o,f,hcc,hz,hl,hb,hf,hr,h1,hlt,r,q2,q3⟩,hWs,.refl _,rfl,rfl,fun i a b=>absurd b (Nat.not_lt_of_le a),fun h=>by cases h⟩
           · rw [if_neg hlt] at h
             have hge:@LE.le Nat instLENat s.n id:=Nat.le_of_not_lt hlt
             injection h with h
             injection h with h1' h2'
             subst h1' h2'
             obtain ⟨q1,r0,q2,q3⟩:=ht0 id rfl
             obtain ⟨_,htop,bT,fT,tT,r1,r2⟩:=hT
             have hsz:a0.size=a.size:=e2.symm
             rw [hsz] at q2 q3 hcc0
             rw [r1] at q2
             injection q2 with q2
             subst q2
             obtain ⟨k1,k2⟩:=tokR_ok (E:=E1.to s.n) hWs (L:=a.size) (z:=z) (b:=bT) (f:=fT) (t:=tT) r2 (fun j L' z' f' t' hj hjt hft hft2=>by
              have hj2:H.get s1.h j=some (.tok L' z')∧j<s.n:=by
               rw [mrg_get] at hj
               split at hj
               · rename_i hj2; exact ⟨hj,hj2⟩
               · exfalso
                 rename_i hj2
                 have:=hWs.lt j _ (by rw [mrg_get,if_neg hj2]; exact hj)
                 exact hj2 this
              exact hW1.tinj j id L' z' a.size z bT f' t' fT tT hj2.1 hg (by omega) hjt hft r1 hft2)
             -- the slice as it was handed to the cut, and as it is stripped, are the machine's one slice
             rw [hcc] at hcc0
             injection hcc0 with g1 g2 g3
             subst g1 g3
             have fin:∀ (hh:∃ (zz:Nat) (base:Option Addr) (cap b o:Nat) (f:Nat→Nat→Value),c'=.slice base a.size cap∧(∀ i,i<a.size→∃ c,a.toList[i]?=some (.agg c)∧c.size=zz)∧a.size≤cap∧(cap=0∨base=some ⟨b,o,none⟩)∧(∀ i j,i<a.size→j<zz→E1.fz b (o+i*zz+j)=some (f i j))∧(∀ i j,i<a.size→j<zz→VRel E1 (elC a i j) (f i j))∧(∀ i j,i<a.size→j<zz→oneC (elC a i j)=true) ∧
               (cap=a.size∨(0<zz∧(bT,fT,tT,z)=(b,o+a.size*zz,o+cap*zz,zz)))),∃ E',VRel E' (fzV ((mrg s s1).n+3) a) c'∧WRel E' (newD (mrg s s1) (.tok a.size z)) w1∧(E1.to s.n).Le E'∧E'.fz=E1.fz∧E'.tb=E1.tb∧(∀ i,(E1.to s.n).n≤i→i<E'.n→E'.own i=false)∧(some z=none→newD (mrg s s1) (.tok a.size z)=mrg s s1∧E'=E1.to s.n):=by
              rintro ⟨zz,base,cap,b,o,f,u1,u2,u3,u4,u5,u6,u7,u8⟩
              refine ⟨_,mk _ (mrg s s1).n k2.le ⟨zz,base,cap,b,o,f,u1,u2,u3,u4,u5,u6,u7,?_,(bT,fT,tT,z),?_,u8⟩,k1,k2.le,rfl,rfl,fun i a b=>?_,fun h=>by cases h⟩
              · show s.n<s.n+1; omega
              · simp [Env.tokR,Env.to,mrg]
              · have:i=s.n:=by have b:i<s.n+1:=b; have a:s.n≤i:=a; omega
                subst this
                show (if s.n=s.n then _ else _)=_
                rw [if_pos rfl]
             obtain ⟨zz1,base1,cap1,b1,o1,f1,hcc1,hz1,_,hb1,_,_,_,_,ht1⟩:=hv.fz_inv (fzOk_is c2')
             rw [hsz] at hcc1
             obtain ⟨_,r1',q4,q5⟩:=ht1 id rfl
             rw [hsz,r1] at q4
             injection q4 with q4
             subst q4
             rw [hsz] at q5
             rw [hcc] at hcc1
             injection hcc1 with g4 g5 g6
             subst g4 g6
             by_cases ha0:a.size=0
             · exact fin ⟨zz1,base,cap,b1,o1,f,hcc,fun i hi=>by omega,hl,hb1,fun i j hi=>by omega,fun i j hi=>by omega,fun i j hi=>by omega,q5⟩
             · have e5:zz=z:=(fzOk_z c1 hz).resolve_left ha0
               have e6:zz1=z:=(fzOk_z c2' hz1).resolve_left (by omega)
               subst e5
               subst e6
               have hbb:b=b1∧o=o1:=by
                have x1:=hb.resolve_left (by omega)
                have x2:=hb1.resolve_left (by omega)
                rw [x1] at x2
                injection x2 with x2
                injection x2 with x2 x3
                exact ⟨x2,x3⟩
               obtain ⟨rfl,rfl⟩:=hbb
               exact fin ⟨_,base,cap,b,o,f,hcc,hz,hl,hb,hf,hr,h1,q5⟩
         · rw [if_neg htk] at h; cases h
     · cases h
   · cases h
end Go.FS
