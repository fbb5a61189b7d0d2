import Derived.Test.YtmhmbmogodofeaaFf
import Derived.IntWalk
namespace Go.FS
open Go.RowKit
variable {P:Program} {H:HeapI}
theorem els_join {E:Env} {z a n:Nat} {A N:List Value} {old' new':List Value} (hA:A.length=a) (_hN:N.length=n) (hol:old'.length=a*z) (_hnl:new'.length=n*z)
 (ho:∀ i j,i<a→j<z→∃ v',old'[i*z+j]?=some v'∧VRel E (elL A i j) v'∧oneC (elL A i j)=true)
 (hn:∀ i j,i<n→j<z→∃ v',new'[i*z+j]?=some v'∧VRel E (elL N i j) v'∧oneC (elL N i j)=true) :
 ∀ i j,i<a+n→j<z→∃ v',(old'++new')[i*z+j]?=some v'∧VRel E (elL (A++N) i j) v'∧oneC (elL (A++N) i j)=true:=by
 intro i j hi hj
 by_cases h:i<a
 · obtain ⟨v',h1,h2,h3⟩:=ho i j h hj
   have e:elL (A++N) i j=elL A i j:=by unfold elL; rw [List.getElem?_append_left (by omega)]
   rw [e]
   exact ⟨v',by rw [List.getElem?_append_left (by obtain ⟨q,_⟩:=List.getElem?_eq_some_iff.1 h1; exact q)]; exact h1,h2,h3⟩
 · obtain ⟨v',h1,h2,h3⟩:=hn (i-a) j (by omega) hj
   have e:elL (A++N) i j=elL N (i-a) j:=by unfold elL; rw [List.getElem?_append_right (by omega),hA]
   rw [e]
   have e2:i*z+j=old'.length+((i-a)*z+j):=by
    rw [hol]
    have:i=a+(i-a):=by omega
    rw [this,Nat.add_mul]
    have:a+(i-a)-a=i-a:=by omega
    rw [this]; omega
   exact ⟨v',by rw [e2,List.getElem?_append_right (Nat.le_add_right _ _),Nat.add_sub_cancel_left]; exact h1,h2,h3⟩
theorem Els.join {z:Nat} {A N:List Value} (h:A.length≠0→Els z A) (k:N.length≠0→Els z N):Els z (A++N):=fun i hi=>by
 rw [List.length_append] at hi
 by_cases h2:i<A.length
 · rw [List.getElem?_append_left h2]; exact h (by omega) i h2
 · rw [List.getElem?_append_right (by omega)]; exact k (by omega) _ (by omega)
theorem fz_rel {E':Env} {m z L cap b o:Nat} {els:List Value} {cells:List Value} (hL:els.length=L) (hz:Els z els) (hl:L≤cap)
 (hc:∀ i j,i<L→j<z→∃ v',cells[i*z+j]?=some v'∧E'.fz b (o+i*z+j)=some v'∧VRel E' (elL els i j) v'∧oneC (elL els i j)=true)
 (hx:(m=1→cap=L)∧m≠2) (ht:∀ id,m=id+3→id<E'.n∧∃ r,E'.tk id L=some r∧(cap=L∨(0<z∧r=(b,o+L*z,o+cap*z,z)))) :
 VRel E' (fzV m els.toArray) (.slice (some ⟨b,o,none⟩) L cap):=by
 have hs:els.toArray.size=L:=by simpa using hL
 have:=VRel.fz (E:=E') m els.toArray z (some ⟨b,o,none⟩) cap b o (fun i j=>cells.getD (i*z+j) dc) (fun i hi=>by rw [hs] at hi; simpa using hz i (by omega)) (by rw [hs]; exact hl) (.inr rfl)
  (fun i j hi hj=>by
   rw [hs] at hi
   obtain ⟨v',q1,q2,q3,q4⟩:=hc i j hi hj
   simp only [List.getD,q1,Option.getD_some]; exact q2)
  (fun i j hi hj=>by
   rw [hs] at hi
   obtain ⟨v',q1,q2,q3,q4⟩:=hc i j hi hj
   simp only [List.getD,q1,Option.getD_some]
   rw [elC_L]; simpa using q3)
  (fun i j hi hj=>by
   rw [hs] at hi
   obtain ⟨v',q1,q2,q3,q4⟩:=hc i j hi hj
   rw [elC_L]; simpa using q4)
  ⟨fun e=>by rw [hs]; exact hx.1 e,fun e=>absurd e hx.2⟩ (fun id e=>by rw [hs]; exact ht id e)
 rw [hs] at this
 exact this
theorem fz_grown {E:Env} {s s':St H} {w:World} (hW:WRel E s w) {tid n K len z:Nat} {e:TypeId} {A N:List Value} {old' new' zc:List Value}
 (hi:(tid=E.n∧s'=newD s (.tok (len+n) z))∨(tid<E.n∧(∃ L0,H.get s.h tid=some (.tok L0 z)∧L0<len+n)∧s'=putD s tid (.tok (len+n) z)))
 (hz:0<z) (hA:A.length=len) (hN:N.length=n) (hol:old'.length=len*z) (hnl:new'.length=n*z) (hEl:Els z (A++N)) (hK:len+n≤K) (hzc:zc.length=(K-(len+n))*z)
 (hj:∀ i j,i<len+n→j<z→∃ v',(old'++new')[i*z+j]?=some v'∧VRel E (elL (A++N) i j) v'∧oneC (elL (A++N) i j)=true) :
 Goes E w s' (fzV (tid+3) (A++N).toArray) (.ok (.slice (some ⟨w.heap.size,0,none⟩) (len+n) K) (w.alloc (.cells (old'.toArray++new'.toArray++zc.toArray) e))):=by
 have hb:(w.alloc (.cells (old'.toArray++new'.toArray++zc.toArray) e)).heap[w.heap.size]?=some (.cells (old'.toArray++new'.toArray++zc.toArray) e):=by
  show (w.heap.push _)[w.heap.size]?=_
  rw [Array.getElem?_push_size]
 have hlen:(old'++new').length=(len+n)*z:=by rw [List.length_append,hol,hnl,Nat.add_mul]
 have hsize:(old'.toArray++new'.toArray++zc.toArray).size=K*z:=by
  simp only [Array.size_append,List.size_toArray]
  rw [hol,hnl,hzc,← Nat.add_mul,← Nat.add_mul]
  congr 1; omega
 have hcell:∀ k (hk:k<(old'++new').length),(w.alloc (.cells (old'.toArray++new'.toArray++zc.toArray) e)).cell? ⟨w.heap.size,0+k,none⟩=some (old'++new')[k]:=by
  intro k hk
  have:k<(old'.toArray++new'.toArray++zc.toArray).size:=by rw [hsize]; rw [hlen] at hk; have:=Nat.mul_le_mul_right z hK; omega
  simp only [World.cell?,hb,Nat.zero_add]
  simp only [Bool.false_eq_true,if_false,Option.isSome_none]
  rw [Array.getElem?_eq_getElem this]
  congr 1
  rw [← Array.getElem_toList]
  simp only [Array.toList_append,List.toList_toArray]
  exact List.getElem_append_left hk
 obtain ⟨h1,h2⟩:=room_ok (E:=E) (w':=w.alloc (.cells (old'.toArray++new'.toArray++zc.toArray) e)) hW (L:=len+n) (z:=z) (b:=w.heap.size) (p:=0) (f:=(len+n)*z) (t:=K*z) (l:=old'++new') hi (by simp) (by simp)
  (fun k hk _=>Below.heap_alloc _ _ _ hk) (.inl (Nat.le_refl _)) (fun o v hv=>(hW.no_fz (Nat.le_refl _) hv).elim) hcell (fun k _=>by
   cases hq:E.fz w.heap.size (0+k) with
   | none=>rfl
   | some v=>exact (hW.no_fz (Nat.le_refl _) hq).elim)
  (fun hft=>⟨by rw [hlen]; omega,⟨e,K*z,by simp only [World.shape?,hb,hsize],Nat.le_refl _⟩,fun o _ _=>⟨by simp only [World.frozen?,hb]; simp,by
   cases hq:E.fz w.heap.size o with
   | none=>rfl
   | some v=>exact (hW.no_fz (Nat.le_refl _) hq).elim⟩⟩)
  (fun j L' z' f' t' hj _ ht' hft=>by
   obtain ⟨_,_,b2,f2,t2,q1,q2⟩:=(hW.obj j _ hj:TokRel E w j L' z')
   rw [q1] at ht'; injection ht' with ht'; injection ht' with e1 ht'; injection ht' with e2 ht'; injection ht' with e3 _
   have:=(q2 (by omega)).1
   omega) ⟨rfl,rfl,rfl⟩
 refine ⟨_,_,_,rfl,?_,h1,h2⟩
 refine fz_rel (cells:=old'++new') (by rw [List.length_append,hA,hN]) hEl hK (fun i j hi2 hj2=>?_) ⟨fun e=>by omega,by omega⟩ (fun id e=>?_)
 · obtain ⟨v',q1,q2,q3⟩:=hj i j hi2 hj2
   refine ⟨v',q1,?_,q2.mono h2.le,q3⟩
   have hlt:i*z+j<(old'++new').length:=by obtain ⟨q,_⟩:=List.getElem?_eq_some_iff.1 q1; exact q
   simp only [Env.upd,Nat.zero_add,Nat.zero_le,true_and,Nat.sub_zero]
   rw [if_pos hlt]; exact q1
 · have e:id=tid:=by omega
   subst e
   refine ⟨?_,(w.heap.size,(len+n)*z,K*z,z),by simp [Env.upd],.inr ⟨hz,by simp⟩⟩
   simp only [Env.upd]
   split
   · assumption
   · rcases hi with ⟨e,_⟩ | ⟨e,_⟩ <;> omega
theorem fz_room {E:Env} {s:St H} {w:World} (hW:WRel E s w) {tid n cap len z b o:Nat} {A N:List Value} {old' new':List Value} (hg:H.get s.h tid=some (.tok len z)) (hr:E.tk tid len=some (b,o+len*z,o+cap*z,z))
 (hz:0<z) (hn0:n≠0) (hA:A.length=len) (hN:N.length=n) (hol:old'.length=len*z) (hnl:new'.length=n*z) (hEl:Els z (A++N)) (hK:len+n≤cap)
 (hf:∀ i j,i<len→j<z→∃ v',old'[i*z+j]?=some v'∧E.fz b (o+i*z+j)=some v')
 (hj:∀ i j,i<len+n→j<z→∃ v',(old'++new')[i*z+j]?=some v'∧VRel E (elL (A++N) i j) v'∧oneC (elL (A++N) i j)=true)
 (hone:∀ v∈new',v.oneCell'=true) :
 ∃ w',(storeCells ((⟨b,o,none⟩:Addr).add (len*z)) new').run P w=.ok () w'∧Goes E w (putD s tid (.tok (len+n) z)) (fzV (tid+3) (A++N).toArray) (.ok (.slice (some ⟨b,o,none⟩) (len+n) cap) w'):=by
 have hT:TokRel E w tid len z:=hW.obj tid _ hg
 have hlt:=hW.lt tid _ hg
 obtain ⟨hown,htop,b2,f2,t2,q1,q2⟩:=hT
 rw [hr] at q1; injection q1 with q1; injection q1 with e1 q1; injection q1 with e2 q1; injection q1 with e3 _
 subst e1 e2 e3
 have hmul:len*z+n*z≤cap*z:=by rw [← Nat.add_mul]; exact Nat.mul_le_mul_right _ hK
 have hnz:0<n*z:=Nat.mul_pos (by omega) hz
 obtain ⟨k1,k2,⟨e,sz,k3,k4⟩,k5⟩:=q2 (by omega)
 have hin:∀ j,j<new'.length→(w.cell? ⟨b,o+len*z+j,none⟩).isSome=true:=fun j hj=>cell_of_shape k3 _ (by omega)
 have hst:(storeCells ((⟨b,o,none⟩:Addr).add (len*z)) new').run P w=.ok () (w.setCells b (o+len*z) new'):=by
  rw [addr_add]
  have:=run_storeCells_cells (P:=P) b (o+len*z) new' 0 w (fun j hj=>by simpa using hin j hj) (fun j hj=>by
   have:=(k5 (o+len*z+j) (by omega) (by omega)).1
   simpa using this) hone
  simpa using this
 refine ⟨_,hst,?_⟩
 obtain ⟨r1,r2,r3⟩:=rest_setCells b new' (o+len*z) w
 obtain ⟨h1,h2⟩:=room_ok (E:=E) (w':=w.setCells b (o+len*z) new') hW (i:=tid) (L:=len+n) (z:=z) (b:=b) (p:=o+len*z) (f:=o+(len+n)*z) (t:=o+cap*z) (l:=new') (.inr ⟨hlt,⟨len,hg,by omega⟩,rfl⟩)
  (by rw [size_setCells]; exact Nat.le_refl _) (by rw [size_setCells]; exact k1) (fun k hk hkb=>heap_setCells _ _ _ _ _ hkb) (.inr k2)
  (fun o' v hv=>by
   rw [World.cell?_setCells_out]
   · exact (hW.frz _ _ _ hv).1
   · intro _ _
     rcases Nat.lt_or_ge o' (o+len*z) with h | h
     · exact .inl (by simpa using h)
     · rcases Nat.lt_or_ge o' (o+len*z+new'.length) with h2 | h2
       · have:=(k5 o' h (by omega)).2
         rw [this] at hv; cases hv
       · exact .inr (by simpa using h2))
  (fun k hk=>by
   have:=World.cell?_setCells_in b new' (o+len*z) w hin k hk
   exact this)
  (fun k hk=>(k5 _ (by omega) (by omega)).2)
  (fun hft=>⟨by rw [hnl,Nat.add_mul]; omega,⟨e,sz,by rw [shape_setCells]; exact k3,k4⟩,fun o' a1 a2=>⟨by rw [World.frozen?_setCells]; exact (k5 o' (by rw [Nat.add_mul] at a1; omega) a2).1,(k5 o' (by rw [Nat.add_mul] at a1; omega) a2).2⟩⟩)
  (fun j L' z' f' t' hj hne ht' hft=>hW.tinj tid j len z L' z' b (o+len*z) (o+cap*z) f' t' hg hj (fun e=>hne e.symm) hr (by omega) ht' hft) ⟨r1,r2,r3⟩
 refine ⟨_,_,_,rfl,?_,h1,h2⟩
 refine fz_rel (cells:=old'++new') (by rw [List.length_append,hA,hN]) hEl hK (fun i j hi2 hj2=>?_) ⟨fun e=>by omega,by omega⟩ (fun id e=>?_)
 · obtain ⟨v',q1,q2,q3⟩:=hj i j hi2 hj2
   refine ⟨v',q1,?_,q2.mono h2.le,q3⟩
   by_cases hi3:i<len
   · obtain ⟨v2,u1,u2⟩:=hf i j hi3 hj2
     have hlt2:i*z+j<old'.length:=by obtain ⟨q,_⟩:=List.getElem?_eq_some_iff.1 u1; exact q
     rw [List.getElem?_append_left hlt2,u1] at q1
     injection q1 with q1
     subst q1
     exact h2.le.fz _ _ _ u2
   · have hge:len*z≤i*z:=Nat.mul_le_mul_right _ (by omega)
     have hlt2:i*z+j<(old'++new').length:=by obtain ⟨q,_⟩:=List.getElem?_eq_some_iff.1 q1; exact q
     rw [List.length_append,hol] at hlt2
     rw [List.getElem?_append_right (by omega),hol] at q1
     simp only [Env.upd]
     rw [if_pos ⟨trivial,by omega,by omega⟩]
     rw [show o+i*z+j-(o+len*z)=i*z+j-len*z from by omega]; exact q1
 · have e:id=tid:=by omega
   subst e
   refine ⟨by simp only [Env.upd]; rw [if_pos hlt]; exact hlt,(b,o+(len+n)*z,o+cap*z,z),by simp [Env.upd],.inr ⟨hz,rfl⟩⟩
theorem WRel.same {E:Env} {s:St H} {w:World} (hW:WRel E s w) {id:Nat} {o:DObj} (hg:H.get s.h id=some o):WRel E (putD s id o) w:=by
 have hget:∀ i,H.get (putD s id o).h i=H.get s.h i:=fun i=>by
  simp only [putD,H.get_put]
  split
  · rename_i e; rw [e,hg]
  · rfl
 refine ⟨hW.n,hW.blt,fun i oi q=>?_,fun i j oi oj hi hj=>?_,fun i oi q=>?_,fun i j L z L' z' b f t f' t' hi hj=>?_,fun i oi q=>?_,fun b oo v hv=>⟨(hW.frz b oo v hv).1,fun i x q=>?_⟩,hW.tbl,hW.glb⟩
 · rw [hget] at q; exact hW.lt i oi q
 · rw [hget] at hi hj; exact hW.inj i j oi oj hi hj
 · rw [hget] at q; exact hW.obj i oi q
 · rw [hget] at hi hj; exact hW.tinj i j L z L' z' b f t f' t' hi hj
 · rw [hget] at q; exact hW.tbo i oi q
 · rw [hget] at q; exact (hW.frz b oo v hv).2 i x q
theorem rowOf_at {z:Nat}:∀ {L:List Value},Els z L→(rowOf L).length=L.length*z∧∀ i j,i<L.length→j<z→(rowOf L)[i*z+j]?=some (elL L i j)
 | [],_=>⟨by simp [rowOf],fun i j hi=>absurd hi (Nat.not_lt_zero i)⟩
 | a::L,hz=>by
  obtain ⟨c,hc,hcz⟩:=hz 0 (by simp)
  simp only [List.getElem?_cons_zero,Option.some.injEq] at hc
  subst hc
  obtain ⟨h1,h2⟩:=rowOf_at (L:=L) (fun i hi=>by have:=hz (i+1) (by simpa using hi); simpa using this)
  have e:rowOf (.agg c::L)=c.toList++rowOf L:=by simp [rowOf]
  rw [e]
  refine ⟨by simp [h1,hcz,Nat.succ_mul]; omega,fun i j hi hj=>?_⟩
  cases i with
  | zero =>
   rw [Nat.zero_mul,Nat.zero_add,List.getElem?_append_left (by simpa [hcz] using hj)]
   simp [elL,List.getD,hcz,hj]
  | succ i =>
   have e:(i+1)*z+j=c.toList.length+(i*z+j):=by rw [Array.length_toList,hcz,Nat.succ_mul]; omega
   rw [e,List.getElem?_append_right (Nat.le_add_right _ _),Nat.add_sub_cancel_left,h2 i j (by simpa using hi) hj]
   simp [elL]
theorem rowOf_rel {E:Env} {z:Nat} {L:List Value} {cells:List Value} (hz:Els z L) (hl:cells.length=L.length*z) (hj:∀ i j,i<L.length→j<z→∃ v',cells[i*z+j]?=some v'∧VRel E (elL L i j) v'):LRel E (rowOf L) cells:=by
 obtain ⟨h1,h2⟩:=rowOf_at hz
 refine .of_get (h1.trans hl.symm) fun k v hk=>?_
 have hlt:k<L.length*z:=by
  obtain ⟨q,_⟩:=List.getElem?_eq_some_iff.1 hk
  omega
 have hz0 : 0 < z := by rcases Nat.eq_zero_or_pos z with h | h; · rw [h] at hlt; omega
                        exact h
 have a1:k / z<L.length:=Nat.div_lt_of_lt_mul (by rw [Nat.mul_comm]; exact hlt)
 have a2:k % z<z:=Nat.mod_lt _ hz0
 have a3:k / z*z+k % z=k:=by rw [Nat.mul_comm]; exact Nat.div_add_mod _ _
 obtain ⟨v',q1,q2⟩:=hj _ _ a1 a2
 have q3:=h2 _ _ a1 a2
 rw [a3] at q1 q3
 rw [hk] at q3
 injection q3 with q3
 rw [q3]
 exact ⟨v',q1,q2⟩
theorem append_ok {md:Bool} {E:Env} {s:St H} {w:World} (hW:WRel E s w) {t xt rt:TypeId} {x x' y y':Value} {p:Value×St H} (hx:VRel E x x') (hy:VRel E y y') (h:appendD P md s t xt x y=some p) :
 Goes E w p.2 p.1 ((Builtin.append_ #[t,xt] rt #[x',y']).run P w):=by
 unfold appendD at h
 split at h
 next e xu hu hxu =>
  obtain ⟨_,hz0,ha1⟩:=bsome h
  obtain ⟨i,hi,ha2⟩:=bsome ha1
  obtain ⟨n,hn,ha3⟩:=bsome ha2
  obtain ⟨len,hlen,ha4⟩:=bsome ha3
  obtain ⟨zs,hzs,ha5⟩:=bsome ha4
  obtain ⟨hc,ha6⟩:=csome ha5
  clear h ha1 ha2 ha3 ha4 ha5
  have h:=ha6
  clear ha6
  simp only [Bool.and_eq_true,decide_eq_true_eq] at hc
  obtain ⟨⟨⟨c1,c2⟩,c4⟩,c5⟩:=hc
  have c4:=Nat.eq_of_beq_eq_true c4
  have c5:0<i.size:=Nat.le_of_ble_eq_true c5
  obtain ⟨i2,zv,hi2,hzv,hzc,hzf⟩:=zeroD_eq hzs
  rw [hi] at hi2
  injection hi2 with hi2
  subst hi2
  have hzsz:zv.cells.size=i.size:=by rw [← Array.length_toList,← c4,← hzc]; simp
  have hno:(∃ e2,xu=.slice e2)∨xu=.string:=by
   split at hz0
   · exact .inl ⟨_,rfl⟩
   · exact .inr rfl
   · cases hz0
  have hly:=len_ok (P:=P) hy hn w
  have hfc0:n=0→(Builtin.firstCells i.size 0 y').run P w=.ok ([]:List Value).toArray w:=by
   intro hn0
   subst hn0
   unfold lenD at hn
   split at hn
   · injection hn with hn; subst hn; cases hy; simp [Builtin.firstCells,loadCells_none]
   · obtain ⟨hf,hn⟩:=csome hn
     obtain ⟨z,base,cap,b,o,f,rfl,_⟩:=hy.fz_inv hf
     cases base <;> simp [Builtin.firstCells,loadCells_none]
   · cases hy; simp [Builtin.firstCells]
   · cases hn
  split at h
  next m arr =>
   obtain ⟨hfz,hB⟩:=csome h
   clear h
   have h:=hB
   clear hB
   have hxx:=hx
   obtain ⟨z2,base,cap,b,o,f,rfl,hz2,hle,hb,hf,hr,h1,hx1,ht⟩:=hx.fz_inv (fzOk_is hfz)
   have hzz:=fzOk_z hfz hz2
   have hlen2:len=arr.size:=by
    have hl2:(bif isFz arr then some arr.size else none)=some len:=hlen
    rw [fzOk_is hfz] at hl2
    exact (Option.some.inj hl2).symm
   subst hlen2
   have hEls:arr.toList.length≠0→Els i.size arr.toList:=fun hne j hj=>by
    rw [Array.length_toList] at hne hj
    have:=hzz.resolve_left hne
    subst this
    exact hz2 j hj
   -- nothing is added, the slice stays
   have stay:n=0→(Builtin.append_ #[t,xt] rt #[.slice base arr.size cap,y']).run P w=.ok (.slice base (arr.size+n) cap) w:=fun hn0=>by
    subst hn0
    exact append_in hu hxu hno hi hly hle (hfc0 rfl) (by cases base <;> rfl)
   -- the elements get a new place
   have grown:∀ (tid:Nat) (s':St H) (new:List Value),elemsD s i.size n y=some new→¬ arr.size+n≤cap →
      ((tid=E.n∧s'=newD s (.tok (arr.size+n) i.size))∨(tid<E.n∧(∃ L0,H.get s.h tid=some (.tok L0 i.size)∧L0<arr.size+n)∧s'=putD s tid (.tok (arr.size+n) i.size))) →
      Goes E w s' (fzV (tid+3) (arr.toList++new).toArray) ((Builtin.append_ #[t,xt] rt #[.slice base arr.size cap,y']).run P w):=by
    intro tid s' new hnew hnf hcase
    obtain ⟨old',f1,f2,f3,f4⟩:=fz_cells (P:=P) hW.drew hxx hfz (Nat.le_refl _)
    obtain ⟨new',g1,g2,g3,g4,g5⟩:=elems_ok (P:=P) hW.drew hy hnew
    obtain ⟨K,hK,hrun⟩:=append_new (rt:=rt) hu hxu hno hi hly hnf f1 g1 hzv c1 c2
    rw [hrun]
    have hzc2:Builtin.zeroCells zv.cells (K-(arr.size+n))=(Builtin.zeroCells zv.cells (K-(arr.size+n))).toList.toArray:=by simp
    rw [hzc2]
    obtain ⟨E',v',w',a1,a2,a3,a4⟩:=fz_grown (e:=e) hW.drew hcase c5 (Array.length_toList) g3 f2 g2 (Els.join hEls (fun hne=>g4 (by omega))) hK
      (by rw [Array.length_toList,zeroCells_size,hzsz]) (els_join (Array.length_toList) g3 f2 g2 f4 g5)
    exact ⟨E',v',w',a1,a2,a3,(Keep.drew E w).trans a4⟩
   have full:cap=arr.size→∀ new,elemsD s i.size n y=some new→Goes E w (cond (md&&Nat.beq n 0) (Value.iface m (.tuple arr),s) (appNew md s i.size (arr.size+n) (arr.toList++new))).2 (cond (md&&Nat.beq n 0) (Value.iface m (.tuple arr),s) (appNew md s i.size (arr.size+n) (arr.toList++new))).1 ((Builtin.append_ #[t,xt] rt #[.slice base arr.size cap,y']).run P w):=by
    intro hcap new hnew
    cases md with
    | false =>
      simp only [Bool.false_and,cond_false,appNew]
      rw [← hW.n]
      by_cases hn0:n=0
      · obtain ⟨new',g1,g2,g3,g4,g5⟩:=elems_ok (P:=P) hW hy hnew
        have:new=[]:=List.eq_nil_of_length_eq_zero (by omega)
        subst this
        have hst:=stay hn0
        subst hn0
        obtain ⟨k1,k2⟩:=tok0_ok hW (arr.size+0) i.size
        refine ⟨_,_,w,hst,?_,k1,k2⟩
        rw [show (arr.toList++([]:List Value)).toArray=arr from by simp]
        exact .fz _ _ z2 base cap b o f hz2 hle hb hf (fun i j hi hj=>(hr i j hi hj).mono k2.le) h1 ⟨fun e=>by omega,fun e=>by omega⟩ (fun id e=>by
         have e:id=E.n:=by omega
         subst e
         exact ⟨Nat.lt_succ_self _,(0,0,0,i.size),by simp [Env.tok0],.inl hcap⟩)
      · exact grown E.n _ new hnew (by omega) (.inl ⟨rfl,rfl⟩)
    | true =>
      by_cases hn0:n=0
      · rw [hn0]
        simp only [beq_yes,Bool.and_self,cond_true]
        have hst:=stay hn0
        rw [hn0] at hst
        exact ⟨E,_,w,hst,hxx,hW,.refl E w⟩
      · rw [beq_no hn0]
        simp only [Bool.and_false,cond_false,appNew,cond_true]
        obtain ⟨old',f1,f2,f3,f4⟩:=fz_cells (P:=P) hW.drew hxx hfz (Nat.le_refl _)
        obtain ⟨new',g1,g2,g3,g4,g5⟩:=elems_ok (P:=P) hW.drew hy hnew
        obtain ⟨K,hK,hrun⟩:=append_new (rt:=rt) hu hxu hno hi hly (by omega) f1 g1 hzv c1 c2
        rw [hrun]
        have hlen3:(arr.toList++new).length=arr.size+n:=by simp [g3]
        have hrel:LRel E (rowOf (arr.toList++new)) (old'++new'):=rowOf_rel (Els.join hEls (fun hne=>g4 (by omega))) (by rw [hlen3,List.length_append,f2,g2,Nat.add_mul]) (fun i j hi hj=>by
         rw [hlen3] at hi
         obtain ⟨v',q1,q2,_⟩:=els_join (Array.length_toList) g3 f2 g2 f4 g5 i j hi hj
         exact ⟨v',q1,q2⟩)
        obtain ⟨u1,u2⟩:=getL hrel (old'.toArray++new'.toArray++Builtin.zeroCells zv.cells (K-(arr.size+n))) ⟨(Builtin.zeroCells zv.cells (K-(arr.size+n))).toList,by simp⟩
        obtain ⟨k1,k2⟩:=newRow_ok hW.drew (l:=rowOf (arr.toList++new)) e u1 u2
        refine ⟨_,_,_,rfl,?_,k1,((Keep.drew E w).trans k2)⟩
        have hsize:(old'.toArray++new'.toArray++Builtin.zeroCells zv.cells (K-(arr.size+n))).size=K*i.size:=by
         simp only [Array.size_append,List.size_toArray,zeroCells_size,hzsz]
         rw [f2,g2,← Nat.add_mul,← Nat.add_mul]
         congr 1; omega
        have:=newSlice_rel E w.heap.size i.size (arr.size+n) K _ 0 (.inl rfl) hK (Nat.le_of_eq hsize.symm)
        rw [← hW.n]
        exact this
   split at h
   · -- nothing is known of the room
     obtain ⟨hn0,h⟩:=csome h
     have hn0:=Nat.eq_of_beq_eq_true hn0
     injection h with h
     subst h
     refine ⟨E,_,w,stay hn0,?_,hW,.refl E w⟩
     rw [hn0]; exact hxx
   · -- there is none
     obtain ⟨new,hnew,rfl⟩:=msome h
     exact full (hx1.1 rfl) new hnew
   · -- it is nil
     obtain ⟨new,hnew,rfl⟩:=msome h
     have h0:=(hx1.2 rfl).2
     exact full (by omega) new hnew
   · -- a token
     rename_i tid
     obtain ⟨new,hnew,h⟩:=bsome h
     obtain ⟨q,hq,h⟩:=bsome h
     obtain ⟨hc,h⟩:=csome h
     injection h with h
     subst h
     simp only [Bool.and_eq_true] at hc
     have e1:=Nat.eq_of_beq_eq_true hc.1
     have e2:=Nat.eq_of_beq_eq_true hc.2
     have hg:=tokD_eq hq
     rw [e1,e2] at hg
     obtain ⟨hlt,r,hr1,hr2⟩:=ht tid rfl
     by_cases hn0:n=0
     · obtain ⟨new',g1,g2,g3,g4,g5⟩:=elems_ok (P:=P) hW hy hnew
       have:new=[]:=List.eq_nil_of_length_eq_zero (by omega)
       subst this
       have hst:=stay hn0
       refine ⟨E,_,w,hst,?_,?_,.refl E w⟩
       · subst hn0; rw [show (arr.toList++([]:List Value)).toArray=arr from by simp]; exact hxx
       · rw [hn0,Nat.add_zero]; exact hW.same hg
     · by_cases hfit:arr.size+n≤cap
       · have hcz:z2=i.size∧r=(b,o+arr.size*z2,o+cap*z2,z2):=by
          rcases hr2 with h | ⟨_,h⟩
          · omega
          · obtain ⟨_,_,b3,f3,t3,q1,_⟩:=(hW.obj tid _ hg:TokRel E w tid arr.size i.size)
            rw [hr1] at q1
            injection q1 with q1
            rw [h] at q1
            injection q1 with _ q1; injection q1 with _ q1; injection q1 with _ q1
            exact ⟨q1,h⟩
         obtain ⟨rfl,rfl⟩:=hcz
         rcases hb with hb | hb
         · omega
         subst hb
         obtain ⟨old',f1,f2,f3,f4⟩:=fz_cells (P:=P) hW hxx hfz (Nat.le_refl _)
         obtain ⟨new',g1,g2,g3,g4,g5⟩:=elems_ok (P:=P) hW hy hnew
         have hold:∀ a c,a<arr.size→c<i.size→∃ v',old'[a*i.size+c]?=some v'∧E.fz b (o+a*i.size+c)=some v':=by
          intro a c ha hc
          obtain ⟨v',q1,q2,q3⟩:=f4 a c ha hc
          refine ⟨v',q1,?_⟩
          have hcell:=(hW.frz _ _ _ (hf a c ha hc)).1
          have hload:w.cell? ((⟨b,o,none⟩:Addr).add (a*i.size+c))=some v':=by
           have hfc:(Builtin.firstCells i.size arr.size (.slice (some ⟨b,o,none⟩) arr.size cap)).run P w=.ok ((List.range (arr.size*i.size)).map fun k=>f (k / i.size) (k % i.size)).toArray w:=by
             have hcell2:∀ k v,((List.range (arr.size*i.size)).map fun k=>f (k / i.size) (k % i.size))[k]?=some v→w.cell? ((⟨b,o,none⟩:Addr).add k)=some v:=by
              intro k v hk
              rw [List.getElem?_map] at hk
              obtain ⟨k2,hk2,rfl⟩:=Option.map_eq_some_iff.1 hk
              obtain ⟨hlt,rfl⟩:=List.getElem?_eq_some_iff.1 hk2
              simp only [List.length_range] at hlt
              have a1:k / i.size<arr.size:=Nat.div_lt_of_lt_mul (by rw [Nat.mul_comm]; exact hlt)
              have a2:k % i.size<i.size:=Nat.mod_lt _ c5
              have a3:k / i.size*i.size+k % i.size=k:=by rw [Nat.mul_comm]; exact Nat.div_add_mod _ _
              have:=(hW.frz _ _ _ (hf (k / i.size) (k % i.size) a1 a2)).1
              simp only [List.getElem_range]
              rw [addr_add]
              rw [show o+k / i.size*i.size+k % i.size=o+k from by omega] at this
              exact this
             have:=run_loadCells_list (P:=P) w ⟨b,o,none⟩ _ hcell2
             simpa [Builtin.firstCells] using this
           rw [hfc] at f1
           have e0:((List.range (arr.size*i.size)).map fun k=>f (k / i.size) (k % i.size)).toArray=old'.toArray:=by injection f1
           have e1:((List.range (arr.size*i.size)).map fun k=>f (k / i.size) (k % i.size))=old':=by simpa using congrArg Array.toList e0
           rw [← e1,List.getElem?_map] at q1
           obtain ⟨k2,hk2,rfl⟩:=Option.map_eq_some_iff.1 q1
           obtain ⟨hlt,rfl⟩:=List.getElem?_eq_some_iff.1 hk2
           have d1:(a*i.size+c) / i.size=a:=by rw [Nat.add_comm,Nat.add_mul_div_right _ _ c5,Nat.div_eq_of_lt hc,Nat.zero_add]
           have d2:(a*i.size+c) % i.size=c:=by rw [Nat.add_comm,Nat.add_mul_mod_self_right,Nat.mod_eq_of_lt hc]
           simp only [List.getElem_range,d1,d2]
           rw [addr_add,← Nat.add_assoc]; exact hcell
          rw [addr_add,← Nat.add_assoc,hcell] at hload
          injection hload with hload
          rw [← hload]; exact hf a c ha hc
         have hone:∀ v∈new',v.oneCell'=true:=fun v hv=>by
          obtain ⟨k,hk,rfl⟩:=List.getElem_of_mem hv
          rw [g2] at hk
          have a1:k / i.size<n:=Nat.div_lt_of_lt_mul (by rw [Nat.mul_comm]; exact hk)
          have a2:k % i.size<i.size:=Nat.mod_lt _ c5
          have a3:k / i.size*i.size+k % i.size=k:=by rw [Nat.mul_comm]; exact Nat.div_add_mod _ _
          obtain ⟨v',q1,q2,q3⟩:=g5 _ _ a1 a2
          rw [a3,List.getElem?_eq_getElem (by omega)] at q1
          injection q1 with q1
          rw [q1]; exact oneC_rel q3 q2
         obtain ⟨w',u1,E',v',w2,u2,u3,u4,u5⟩:=fz_room (P:=P) hW hg hr1 c5 hn0 (Array.length_toList) g3 f2 g2 (Els.join hEls (fun hne=>g4 (by omega))) hfit hold (els_join (Array.length_toList) g3 f2 g2 f4 g5) hone
         injection u2 with u2 u2'
         subst u2 u2'
         exact ⟨E',_,_,append_in hu hxu hno hi hly hfit g1 u1,u3,u4,u5⟩
       · exact grown tid _ new hnew hfit (.inr ⟨hlt,⟨arr.size,hg,by omega⟩,rfl⟩)
  next id o ln c =>
   obtain ⟨a,cap,rfl,_,hle,hx1,ha⟩:=hx.slice_inv
   have hlen2:ln=len:=by injection hlen
   subst hlen2
   by_cases hn0:n=0
   · rw [hn0] at h
     simp only [beq_yes,cond_true] at h
     injection h with h
     subst h
     refine ⟨E,_,w,append_in hu hxu hno hi hly (by omega) (by rw [hn0]; exact hfc0 hn0) (by exact rfl),?_,hW,.refl E w⟩
     rw [hn0]; exact hx
   · rw [beq_no hn0] at h
     simp only [cond_false] at h
     obtain ⟨new,hnew,h⟩:=bsome h
     have c3:new.all oneC=true:=by
      cases hq:new.all oneC with
      | true=>rfl
      | false=>rw [hq] at h; cases h
     rw [c3] at h
     simp only [Bool.not_true,cond_false] at h
     obtain ⟨q,hq,h⟩:=bsome h
     injection h with h
     subst h
     obtain ⟨new',hfy,hnl,hnlen⟩:=cells_ok (P:=P) hW.drew hy hnew
     have grown:∀ (s2:St H) (old old':List Value),WRel E s2 w→s2.n=s.n→¬ ln+n≤cap→LRel E old old'→old.length=ln*i.size →
        (Builtin.firstCells i.size ln (.slice (some a) ln cap)).run P w.drew=.ok old'.toArray w.drew →
        Goes E w (newD s2 (.row (old++new))) (.slice (some ⟨s2.n,0,none⟩) (ln+n) (2*i.size)) ((Builtin.append_ #[t,xt] rt #[.slice (some a) ln cap,y']).run P w):=by
      intro s2 old old' hW2 hsn hnf hol holen hfo
      obtain ⟨K,hK,hrun⟩:=append_new (rt:=rt) hu hxu hno hi hly hnf hfo hfy hzv c1 c2
      rw [hrun]
      have happ:=hol.append hnl
      obtain ⟨g1,g2⟩:=getL happ (old'.toArray++new'.toArray++Builtin.zeroCells zv.cells (K-(ln+n))) ⟨(Builtin.zeroCells zv.cells (K-(ln+n))).toList,by simp⟩
      obtain ⟨h1,h2⟩:=newRow_ok hW2.drew (l:=old++new) e g1 g2
      refine ⟨_,_,_,rfl,?_,h1,((Keep.drew E w).trans h2)⟩
      have hsize:(old'.toArray++new'.toArray++Builtin.zeroCells zv.cells (K-(ln+n))).size=K*i.size:=by
        have e1:=hol.1
        have e2:=hnl.1
        simp only [Array.size_append,List.size_toArray,zeroCells_size,hzsz]
        rw [← e1,← e2,holen,hnlen,← Nat.add_mul,← Nat.add_mul]
        congr 1; omega
      have:=newSlice_rel E w.heap.size i.size (ln+n) K _ 0 (.inl rfl) hK (Nat.le_of_eq hsize.symm)
      rw [← hW2.n]
      exact this
     by_cases hodd:c % 2=1
     · rw [show Nat.beq (c % 2) 1=true from by rw [hodd]; rfl] at hq
       simp only [cond_true] at hq
       obtain ⟨old,hold,rfl⟩:=msome hq
       obtain ⟨old',hfo,hol,holen⟩:=cells_ok (P:=P) hW.drew hx hold
       have:=hx1 hodd
       exact grown s old old' hW rfl (by omega) hol holen hfo
     · rw [show Nat.beq (c % 2) 1=false from beq_no hodd] at hq
       simp only [cond_false] at hq
       obtain ⟨r,hr,hq⟩:=bsome hq
       obtain ⟨hcz,hq⟩:=csome hq
       have hcz:=Nat.eq_of_beq_eq_true hcz
       obtain ⟨old,hold,rfl⟩:=msome hq
       obtain ⟨hol1,holen⟩:=takeD_eq hold
       by_cases hfit:ln+n≤cap
       · rcases ha with rfl | ⟨_,rfl,hroom⟩
         · omega
         rw [hcz] at hroom
         obtain ⟨new2,hfy2,hnl2,hnlen2⟩:=cells_ok (P:=P) hW hy hnew
         obtain ⟨h1,h2,h3⟩:=append_room (P:=P) hW hr hold hnl2 hnlen2 c3 hfit hroom
         refine ⟨_,_,_,append_in hu hxu hno hi hly hfit hfy2 h1,?_,h2,h3⟩
         rw [← hW.n]
         refine .slice E.n 0 _ _ _ _ (Nat.lt_succ_self _) hfit (fun hh=>by omega) (.inr ⟨Nat.lt_succ_self _,by simp,?_⟩)
         have:2*i.size / 2=i.size:=by omega
         rw [this]; simpa using hroom
       · have hkill:=hW.kill id
         have hrd:∃ old',LRel E old old'∧(Builtin.firstCells i.size ln (.slice (some a) ln cap)).run P w.drew=.ok old'.toArray w.drew:=by
          rcases ha with rfl | ⟨_,rfl,_⟩
          · have:ln=0:=by omega
            subst this
            have:old=[]:=List.eq_nil_of_length_eq_zero (by simpa using holen)
            subst this
            exact ⟨[],.nil E,by simp [Builtin.firstCells,loadCells_none]⟩
          · obtain ⟨old',hl,hlen2,hcell⟩:=(hW.drew.row (rowD_eq hr)).read hold
            refine ⟨old',hl,?_⟩
            have:=run_loadCells_list (P:=P) w.drew ⟨E.blk id,E.off id+o,none⟩ old' hcell
            rw [hlen2] at this
            simpa [Builtin.firstCells] using this
         obtain ⟨old',hol,hfo⟩:=hrd
         exact grown _ old old' hkill rfl hfit hol holen hfo
  next=>cases h
 next=>cases h
theorem appendZ_new {t xt rt e:TypeId} {k:IntKind} {i:TypeInfo} (hu:P.underlying t=some (.slice e)) (hxu:P.underlying xt=some (.int k)) (hi:P.info? e=some i)
 {base:Option Addr} {len:Nat} {kn:IntKind} {n:Int} {zv:Value} {w:World} {old:List Value} (h0:0<n) (hold:(Builtin.firstCells i.size len (.slice base len len)).run P w.drew=.ok old.toArray w.drew)
 (hz:i.zero=some zv) (hs:0<i.size) (hb:(len+n.toNat)*i.bytes≤140737488355328) (hb2:len+n.toNat≤140737488355328) :
 ∃ newCap,len+n.toNat≤newCap∧(Builtin.append_ #[t,xt] rt #[.slice base len len,.int kn n]).run P w=.ok (.slice (some ⟨w.heap.size,0,none⟩) (len+n.toNat) newCap)
  (w.drew.alloc (.cells (old.toArray++Builtin.zeroCells zv.cells n.toNat++Builtin.zeroCells zv.cells (newCap-(len+n.toNat))) e)):=by
 have hsz:(sizeOf e).run P w=.ok i.size w:=by simp [sizeOf,typeInfo,hi]
 have hfit:¬ (Builtin.nextslicecap (len+n.toNat) len*i.bytes>2^48):=Nat.not_lt.2 (growslice_fits (by omega) hb)
 have hbig:¬ (((len+n.toNat:Nat):Int)>IntKind.i64.max):=by
  have:IntKind.i64.max=9223372036854775807:=rfl
  rw [this]; intro h; omega
 have hzr:∀ W:World,(zeroValue e).run P W=.ok zv W:=fun W=>by simp [zeroValue,typeInfo,hi,hz]
 have hwr:IntKind.i64.wrap n=n:=IntWalk.i64_in _ (by omega)
 have hneg:¬ n<0:=by omega
 have hmany:¬ (n*(i.bytes:Int)>2^48):=by
  have h1:n.toNat*i.bytes≤(len+n.toNat)*i.bytes:=Nat.mul_le_mul_right _ (Nat.le_add_left _ _)
  have h2:((n.toNat*i.bytes:Nat):Int)=n*(i.bytes:Int):=by
   rw [Int.natCast_mul,Int.toNat_of_nonneg (by omega)]
  have h3:(2:Int)^48=281474976710656:=rfl
  rw [← h2,h3]; omega
 have hnz:¬ n.toNat*i.size=0:=by
  have:=Nat.mul_pos (show 0<n.toNat by omega) hs
  omega
 have hle:¬ len+n.toNat≤len:=by omega
 refine ⟨len+n.toNat+w.tape w.drawn (.appendCap (len+n.toNat) len e) % (2^63-(len+n.toNat)),by omega,?_⟩
 have hq:(Question.appendCap (len+n.toNat) len e).forced=false:=rfl
 have hcut:(Question.appendCap (len+n.toNat) len e).cut (w.tape w.drawn (.appendCap (len+n.toNat) len e))=len+n.toNat+w.tape w.drawn (.appendCap (len+n.toNat) len e) % (2^63-(len+n.toNat)):=rfl
 simp only [Builtin.append_,List.getElem?_toArray,List.getElem?_cons_zero,List.getElem?_cons_succ,Sem.run_bind,und_run hu,Result.andThen_ok,hsz,und_run hxu,Sem.run_pure,if_true,asInt,asIntOf,hwr]
 rw [if_neg hneg]
 simp only [Sem.run_bind,info_run hi,Result.andThen_ok]
 rw [if_neg hmany]
 rw [Sem.run_bind,Sem.run_pure,Result.andThen_ok]
 rw [if_neg hle]
 simp only [Sem.run_bind,info_run hi,Result.andThen_ok]
 rw [if_neg (fun h=>hbig h.1)]
 simp only [Sem.run_bind,info_run hi,Result.andThen_ok]
 rw [if_neg hfit]
 simp only [Sem.run_bind,run_choose,hq,Bool.false_eq_true,if_false,Result.andThen_ok,info_run hi,run_askRoom,hcut]
 rw [show ({ w with drawn:=w.drawn+1 }:World)=w.drew from rfl,hold,Result.andThen_ok]
 simp only [Bool.not_true,Bool.false_eq_true,if_false]
 rw [if_neg hnz]
 simp only [Sem.run_bind,hzr,Result.andThen_ok,Sem.run_pure]
 simp only [newRow,Sem.run_bind,run_newObj,Result.andThen_ok,Sem.run_pure]
 rfl
theorem appendZ_ok {E:Env} {s:St H} {w:World} (hW:WRel E s w) {t xt rt:TypeId} (hf:isInt P xt=true) {x x' y y':Value} {p:Value×St H} (hx:VRel E x x') (hy:VRel E y y') (h:appendZ P s t x y=some p) :
 Goes E w p.2 p.1 ((Builtin.append_ #[t,xt] rt #[x',y']).run P w):=by
 have hxu:∃ k,P.underlying xt=some (.int k):=by
  unfold isInt at hf
  split at hf
  · exact ⟨_,by assumption⟩
  · cases hf
 obtain ⟨k,hxu⟩:=hxu
 unfold appendZ at h
 split at h
 next e kn n hu =>
  obtain ⟨i,hi,ha2⟩:=bsome h
  obtain ⟨len,hlen,ha4⟩:=bsome ha2
  obtain ⟨zs,hzs,ha5⟩:=bsome ha4
  obtain ⟨hc,ha6⟩:=csome ha5
  clear h ha2 ha4 ha5
  obtain rfl:=hy.int_inv
  simp only [Bool.and_eq_true,decide_eq_true_eq] at hc
  obtain ⟨⟨⟨⟨c0,c1⟩,c2⟩,c4⟩,c5⟩:=hc
  have c4:=Nat.eq_of_beq_eq_true c4
  have c5:0<i.size:=Nat.le_of_ble_eq_true c5
  obtain ⟨i2,zv,hi2,hzv,hzc,hzf⟩:=zeroD_eq hzs
  rw [hi] at hi2
  injection hi2 with hi2
  subst hi2
  have hzsz:zv.cells.size=i.size:=by rw [← Array.length_toList,← c4,← hzc]; simp
  split at ha6
  next m arr =>
   obtain ⟨hc,hb⟩:=csome ha6
   clear ha6
   simp only [Bool.and_eq_true,Bool.or_eq_true] at hc
   obtain ⟨hfz,hm⟩:=hc
   obtain ⟨old,hold,hb⟩:=bsome hb
   obtain ⟨_,hb⟩:=csome hb
   injection hb with hb
   subst hb
   obtain ⟨z2,base,cap,b,o,f,rfl,hz2,hle,hbb,hff,hr,h1,hx1,ht⟩:=hx.fz_inv (fzOk_is hfz)
   have hlen2:len=arr.size:=by
    have hl2:(bif isFz arr then some arr.size else none)=some len:=hlen
    rw [fzOk_is hfz] at hl2
    exact (Option.some.inj hl2).symm
   subst hlen2
   have hcap:cap=arr.size:=by
    rcases hm with hm | hm
    · exact hx1.1 (Nat.eq_of_beq_eq_true hm)
    · have:=(hx1.2 (Nat.eq_of_beq_eq_true hm)).2; omega
   subst hcap
   obtain ⟨old',hfo,hol,holen⟩:=cells_ok (P:=P) hW.drew hx hold
   obtain ⟨K,hK,hrun⟩:=appendZ_new (rt:=rt) (kn:=kn) hu hxu hi c0 hfo hzv c5 c1 c2
   rw [hrun]
   have hsize:(old'.toArray++Builtin.zeroCells zv.cells n.toNat++Builtin.zeroCells zv.cells (K-(arr.size+n.toNat))).size=K*i.size:=by
    simp only [Array.size_append,List.size_toArray,zeroCells_size,hzsz]
    rw [← hol.1,holen,← Nat.add_mul,← Nat.add_mul]
    congr 1; omega
   have hzero:LRel E (repeatL n.toNat zs) (Builtin.zeroCells zv.cells n.toNat).toList:=by
    have hln:(repeatL n.toNat zs).length=n.toNat*i.size:=by rw [repeatL_len,c4]
    refine ⟨by rw [hln,Array.length_toList,zeroCells_size,hzsz],fun j a b=>?_⟩
    obtain ⟨hj,hg⟩:=repeatL_get _ _ j a
    have hj2:j % zv.cells.size<zv.cells.size:=by rw [hzsz,← c4]; exact hj
    rw [hg]
    have e1:(Builtin.zeroCells zv.cells n.toNat).toList[j]=zv.cells[j % zv.cells.size]:=by
     rw [Array.getElem_toList]
     simp only [Builtin.zeroCells,Array.getElem_map,Array.getElem_range]
     rw [getElem!_pos zv.cells _ hj2]
    have e2:zs[j % zs.length]'hj=nz1 zv.cells[j % zv.cells.size]:=by
     subst hzc
     simp only [List.getElem_map,Array.getElem_toList,List.length_map,Array.length_toList]
    rw [e1,e2]
    exact nz1_rel (List.all_eq_true.1 hzf _ (by simp))
   have hall:=hol.append hzero
   obtain ⟨u1,u2⟩:=getL hall (old'.toArray++Builtin.zeroCells zv.cells n.toNat++Builtin.zeroCells zv.cells (K-(arr.size+n.toNat))) ⟨(Builtin.zeroCells zv.cells (K-(arr.size+n.toNat))).toList,by simp⟩
   obtain ⟨k1,k2⟩:=newRow_ok hW.drew (l:=old++repeatL n.toNat zs) e u1 u2
   refine ⟨_,_,_,rfl,?_,k1,((Keep.drew E w).trans k2)⟩
   have:=newSlice_rel E w.heap.size i.size (arr.size+n.toNat) K _ 0 (.inl rfl) hK (Nat.le_of_eq hsize.symm)
   rw [← hW.n]
   exact this
  next=>cases ha6
 next=>cases h
end Go.FS
