import Derived.Test.YtmhmbmogodofeaaFe
namespace Go.FS
open Go.RowKit
variable {P:Program} {H:HeapI}
theorem loadCells_none (a:Addr) (w:World):(loadCells a 0).run P w=.ok #[] w:=by
 have:=run_loadCells_list (P:=P) w a [] (by simp)
 simpa using this
def elL (L:List Value) (i j:Nat):Value :=
 match L[i]? with
 | some (.agg c)=>c.toList.getD j dc
 | _=>dc
theorem elC_L (arr:Array Value) (i j:Nat):elC arr i j=elL arr.toList i j:=rfl
def Els (z:Nat) (L:List Value):Prop:=∀ i,i<L.length→∃ c,L[i]?=some (.agg c)∧c.size=z
theorem aggL_at {z:Nat}:∀ {L l:List Value},aggL L=some l→Els z L→l.length=L.length*z∧∀ i j,i<L.length→j<z→l[i*z+j]?=some (elL L i j)
 | [],l,h,_=>by
  injection h with h; subst h
  exact ⟨by simp,fun i j hi=>absurd hi (Nat.not_lt_zero i)⟩
 | a::L,l,h,hz=>by
  obtain ⟨c,hc,hcz⟩:=hz 0 (by simp)
  simp only [List.getElem?_cons_zero,Option.some.injEq] at hc
  subst hc
  obtain ⟨r,hr,rfl⟩:=msome h
  obtain ⟨h1,h2⟩:=aggL_at hr (fun i hi=>by have:=hz (i+1) (by simpa using hi); simpa using this)
  refine ⟨by simp [h1,hcz,Nat.succ_mul]; omega,fun i j hi hj=>?_⟩
  cases i with
  | zero =>
   rw [Nat.zero_mul,Nat.zero_add,List.getElem?_append_left (by simpa [hcz] using hj)]
   simp [elL,List.getD,hcz,hj]
  | succ i =>
   have e:(i+1)*z+j=c.toList.length+(i*z+j):=by rw [Array.length_toList,hcz,Nat.succ_mul]; omega
   rw [e,List.getElem?_append_right (Nat.le_add_right _ _),Nat.add_sub_cancel_left,h2 i j (by simpa using hi) hj]
   simp [elL]
theorem Els.of_take {z n:Nat} {L:List Value} (h:Els z L):Els z (L.take n):=fun i hi=>by
 simp only [List.length_take] at hi
 rw [List.getElem?_take,if_pos (by omega)]; exact h i (by omega)
theorem elL_take {L:List Value} {n i j:Nat} (hi:i<n):elL (L.take n) i j=elL L i j:=by
 unfold elL; rw [List.getElem?_take,if_pos hi]
theorem fz_cells {E:Env} {s:St H} {w:World} (hW:WRel E s w) {z n:Nat} {m:Nat} {arr:Array Value} {y':Value} (hy:VRel E (.iface m (.tuple arr)) y') (hz:fzOk z arr=true) (hn:n≤arr.size) :
 ∃ l':List Value,(Builtin.firstCells z n y').run P w=.ok l'.toArray w∧l'.length=n*z∧(n≠0→Els z arr.toList)∧∀ i j,i<n→j<z→∃ v',l'[i*z+j]?=some v'∧VRel E (elL arr.toList i j) v'∧oneC (elL arr.toList i j)=true:=by
 obtain ⟨z2,base,cap,b,o,f,rfl,hz2,hle,hb,hf,hr,h1,hx1,ht⟩:=hy.fz_inv (fzOk_is hz)
 by_cases hn0:n=0
 · subst hn0
   refine ⟨[],?_,by simp,fun h=>absurd rfl h,fun i j hi=>absurd hi (Nat.not_lt_zero i)⟩
   cases base <;> simp [Builtin.firstCells,loadCells_none]
 · have hzz:z2=z:=(fzOk_z hz hz2).resolve_left (by omega)
   subst hzz
   rcases hb with rfl | rfl
   · omega
   have hdm:∀ k,k<n*z2→k / z2<n∧k % z2<z2∧k / z2*z2+k % z2=k:=fun k hk=>by
    have hz0 : 0 < z2 := by rcases Nat.eq_zero_or_pos z2 with h | h; · rw [h] at hk; omega
                            exact h
    exact ⟨Nat.div_lt_of_lt_mul (by rw [Nat.mul_comm]; exact hk),Nat.mod_lt _ hz0,by rw [Nat.mul_comm]; exact Nat.div_add_mod _ _⟩
   refine ⟨(List.range (n*z2)).map fun k=>f (k / z2) (k % z2),?_,by simp,fun _ i hi=>hz2 i (by simpa using hi),fun i j hi hj=>?_⟩
   · have hcell:∀ k v,((List.range (n*z2)).map fun k=>f (k / z2) (k % z2))[k]?=some v→w.cell? ((⟨b,o,none⟩:Addr).add k)=some v:=by
      intro k v hk
      rw [List.getElem?_map] at hk
      obtain ⟨k2,hk2,rfl⟩:=Option.map_eq_some_iff.1 hk
      obtain ⟨hlt,rfl⟩:=List.getElem?_eq_some_iff.1 hk2
      simp only [List.length_range] at hlt
      obtain ⟨a1,a2,a3⟩:=hdm k hlt
      have:=(hW.frz _ _ _ (hf (k / z2) (k % z2) (by omega) a2)).1
      simp only [List.getElem_range]
      rw [addr_add]
      rw [show o+k / z2*z2+k % z2=o+k from by omega] at this
      exact this
     have:=run_loadCells_list (P:=P) w ⟨b,o,none⟩ _ hcell
     simpa [Builtin.firstCells] using this
   · have hlt:i*z2+j<n*z2:=by
      have:(i+1)*z2≤n*z2:=Nat.mul_le_mul_right _ hi
      rw [Nat.succ_mul] at this; omega
     have e1:(i*z2+j) / z2=i:=by
      rw [Nat.add_comm,Nat.add_mul_div_right _ _ (by omega),Nat.div_eq_of_lt hj,Nat.zero_add]
     have e2:(i*z2+j) % z2=j:=by rw [Nat.add_comm,Nat.add_mul_mod_self_right,Nat.mod_eq_of_lt hj]
     refine ⟨f i j,by rw [List.getElem?_map,List.getElem?_range hlt]; simp [e1,e2],hr i j (by omega) hj,h1 i j (by omega) hj⟩
theorem LRel.of_get {E:Env} {l l':List Value} (h:l.length=l'.length) (hg:∀ (k:Nat) (v:Value),l[k]?=some v→∃ v',l'[k]?=some v'∧VRel E v v'):LRel E l l' :=
 ⟨h,fun i a b=>by
  obtain ⟨v',h1,h2⟩:=hg i l[i] (List.getElem?_eq_getElem a)
  rw [List.getElem?_eq_getElem b] at h1
  injection h1 with h1
  rw [h1]; exact h2⟩
theorem cells_ok {E:Env} {s:St H} {w:World} (hW:WRel E s w) {z n:Nat} {y y':Value} {l:List Value} (hy:VRel E y y') (h:cellsD s z n y=some l) :
 ∃ l',(Builtin.firstCells z n y').run P w=.ok l'.toArray w∧LRel E l l'∧l.length=n*z:=by
 unfold cellsD at h
 split at h
 · rename_i id o len c
   obtain ⟨hc,h⟩:=csome h
   simp only [Bool.and_eq_true] at hc
   have c1:=Nat.le_of_ble_eq_true hc.1
   obtain ⟨a,cap,rfl,_,hle,hx,ha⟩:=hy.slice_inv
   by_cases hn:n=0
   · subst hn
     simp only [beq_yes,cond_true] at h
     injection h with h
     subst h
     exact ⟨[],by simp [Builtin.firstCells,loadCells_none],.nil E,by simp⟩
   · rw [beq_no hn] at h
     simp only [cond_false] at h
     obtain ⟨r,hr,h⟩:=bsome h
     rcases ha with rfl | ⟨_,rfl,_⟩
     · omega
     obtain ⟨l',hl,hlen,hcell⟩:=(hW.row (rowD_eq hr)).read h
     refine ⟨l',?_,hl,(takeD_eq h).2⟩
     have:=run_loadCells_list (P:=P) w ⟨E.blk id,E.off id+o,none⟩ l' hcell
     rw [hlen] at this
     simpa [Builtin.firstCells] using this
 · rename_i m arr
   obtain ⟨hc,h⟩:=csome h
   simp only [Bool.and_eq_true] at hc
   have c1:=Nat.le_of_ble_eq_true hc.1
   obtain ⟨l',h1,h2,h3,h4⟩:=fz_cells (P:=P) hW hy hc.2 c1
   by_cases hn:n=0
   · subst hn
     simp only [List.take_zero,aggL] at h
     injection h with h
     subst h
     have:l'=[]:=List.eq_nil_of_length_eq_zero (by simpa using h2)
     subst this
     exact ⟨[],h1,.nil E,by simp⟩
   · obtain ⟨k1,k2⟩:=aggL_at h (h3 hn).of_take
     have hln:(arr.toList.take n).length=n:=by simp; omega
     rw [hln] at k1 k2
     refine ⟨l',h1,.of_get (by rw [k1,h2]) fun k v hk=>?_,k1⟩
     have hlt:k<n*z:=by
      obtain ⟨q,_⟩:=List.getElem?_eq_some_iff.1 hk
      omega
     have hz0 : 0 < z := by rcases Nat.eq_zero_or_pos z with h | h; · rw [h] at hlt; omega
                            exact h
     have a1:k / z<n:=Nat.div_lt_of_lt_mul (by rw [Nat.mul_comm]; exact hlt)
     have a2:k % z<z:=Nat.mod_lt _ hz0
     have a3:k / z*z+k % z=k:=by rw [Nat.mul_comm]; exact Nat.div_add_mod _ _
     obtain ⟨v',q1,q2,_⟩:=h4 _ _ a1 a2
     have q3:=k2 _ _ a1 a2
     rw [a3] at q1 q3
     rw [hk] at q3
     injection q3 with q3
     rw [q3,elL_take a1]
     exact ⟨v',q1,q2⟩
 · rename_i b
   obtain ⟨hc,h⟩:=csome h
   have:=Nat.eq_of_beq_eq_true hc
   subst this
   obtain rfl:=hy.string_inv
   obtain ⟨hl,hlen⟩:=takeD_eq h
   refine ⟨l,?_,LRel.flat1_refl ?_,by omega⟩
   · have:((b.extract 0 n).data.map fun b=>Value.int .u8 b.toNat)=l.toArray:=by
      rw [hl]
      apply Array.toList_inj.1
      simp
     simp only [Builtin.firstCells,Sem.run_pure,this]
   · rw [hl]
     apply List.all_eq_true.2
     intro x hx
     have hx:=List.mem_of_mem_take hx
     simp at hx
     obtain ⟨u,_,rfl⟩:=hx
     rfl
 · cases h
theorem chunkL_len (z n:Nat) (l:List Value):(chunkL z n l).length=n:=by simp [chunkL]
theorem chunkL_els {z n:Nat} {l:List Value} (h:l.length=n*z):Els z (chunkL z n l)∧∀ i j,i<n→j<z→elL (chunkL z n l) i j=l.getD (i*z+j) dc:=by
 have key:∀ i,i<n→(chunkL z n l)[i]?=some (.agg ((l.drop (i*z)).take z).toArray):=fun i hi=>by
  simp [chunkL,hi]
 have room:∀ i,i<n→(i+1)*z≤n*z:=fun i hi=>Nat.mul_le_mul_right _ hi
 refine ⟨fun i hi=>?_,fun i j hi hj=>?_⟩
 · rw [chunkL_len] at hi
   refine ⟨_,key i hi,?_⟩
   have:=room i hi
   rw [Nat.succ_mul] at this
   simp; omega
 · unfold elL
   rw [key i hi]
   simp [List.getD,List.getElem?_take,hj]
theorem elems_ok {E:Env} {s:St H} {w:World} (hW:WRel E s w) {z n:Nat} {y y':Value} {els:List Value} (hy:VRel E y y') (h:elemsD s z n y=some els) :
 ∃ l':List Value,(Builtin.firstCells z n y').run P w=.ok l'.toArray w∧l'.length=n*z∧els.length=n∧(n≠0→Els z els)∧∀ i j,i<n→j<z→∃ v',l'[i*z+j]?=some v'∧VRel E (elL els i j) v'∧oneC (elL els i j)=true:=by
 unfold elemsD at h
 split at h
 · obtain ⟨hc,h⟩:=csome h
   injection h with h
   subst h
   simp only [Bool.and_eq_true] at hc
   have c1:=Nat.le_of_ble_eq_true hc.1
   obtain ⟨l',h1,h2,h3,h4⟩:=fz_cells (P:=P) hW hy hc.2 c1
   refine ⟨l',h1,h2,by simp; omega,fun hn=>(h3 hn).of_take,fun i j hi hj=>?_⟩
   rw [elL_take hi]; exact h4 i j hi hj
 · obtain ⟨l,hl,h⟩:=bsome h
   obtain ⟨ho,h⟩:=csome h
   injection h with h
   subst h
   obtain ⟨l',h1,h2,h3⟩:=cells_ok (P:=P) hW hy hl
   obtain ⟨k1,k2⟩:=chunkL_els h3
   refine ⟨l',h1,by rw [← h2.1,h3],chunkL_len _ _ _,fun _=>k1,fun i j hi hj=>?_⟩
   have hlt:i*z+j<l.length:=by
    have:(i+1)*z≤n*z:=Nat.mul_le_mul_right _ hi
    rw [Nat.succ_mul] at this; omega
   obtain ⟨v',q1,q2⟩:=h2.get (List.getElem?_eq_getElem hlt)
   have e:elL (chunkL z n l) i j=l[i*z+j]:=by rw [k2 i j hi hj]; simp [List.getD,hlt]
   rw [e]
   exact ⟨v',q1,q2,List.all_eq_true.1 ho _ (List.getElem_mem hlt)⟩
theorem len_ok {E:Env} {y y':Value} {n:Nat} (hy:VRel E y y') (h:lenD y=some n) (w:World):(Builtin.lenOf y').run P w=.ok n w:=by
 unfold lenD at h
 split at h
 · injection h with h; subst h; cases hy; rfl
 · obtain ⟨hi,h⟩:=csome h
   injection h with h; subst h
   obtain ⟨z,base,cap,b,o,f,rfl,_⟩:=hy.fz_inv hi
   rfl
 · injection h with h; subst h; cases hy; rfl
 · cases h
theorem getL {E:Env} {l l':List Value} (h:LRel E l l') (c:Array Value) (hc:∃ r,c.toList=l'++r):l.length≤c.size∧∀ i (a:i<l.length) (b:i<c.size),VRel E l[i] c[i]:=by
 obtain ⟨r,hr⟩:=hc
 have hs:c.size=l'.length+r.length:=by rw [← Array.length_toList,hr]; simp
 refine ⟨by have:=h.1; omega,fun i a b=>?_⟩
 have hi:i<l'.length:=h.1 ▸ a
 have:c[i]=l'[i]:=by
  rw [← Array.getElem_toList]
  simp only [hr,List.getElem_append_left hi]
 rw [this]; exact h.2 i a hi
theorem zeroCells_size (zs:Array Value) (n:Nat):(Builtin.zeroCells zs n).size=n*zs.size:=by simp [Builtin.zeroCells]
theorem newSlice_rel (E:Env) (b z len cap size:Nat) (x:Nat) (hx:x=0∨(x=1∧cap=len)) (hl:len≤cap) (hz:cap*z≤size) :
 VRel (E.add b 0 size) (.slice (some ⟨E.n,0,none⟩) len (2*z+x)) (.slice (some ⟨b,0,none⟩) len cap):=by
 refine .slice E.n 0 len _ _ cap (Nat.lt_succ_self _) hl (fun h=>?_) (.inr ⟨Nat.lt_succ_self _,by simp,?_⟩)
 · rcases hx with rfl | ⟨_,h⟩
   · omega
   · exact h
 · have:(2*z+x) / 2=z:=by rcases hx with rfl | ⟨rfl,_⟩ <;> omega
   rw [this]; simpa using hz
theorem append_in {t xt rt e:TypeId} {xu:TypeDesc} {i:TypeInfo} (hu:P.underlying t=some (.slice e)) (hxu:P.underlying xt=some xu) (hno:(∃ e2,xu=.slice e2)∨xu=.string) (hi:P.info? e=some i)
 {base:Option Addr} {len cap n:Nat} {y':Value} {w w1:World} {new:List Value} (hly:(Builtin.lenOf y').run P w=.ok n w) (hle:len+n≤cap) (hnew:(Builtin.firstCells i.size n y').run P w=.ok new.toArray w)
 (hst:match base with | none=>w1=w | some a=>(storeCells (a.add (len*i.size)) new).run P w=.ok () w1) :
 (Builtin.append_ #[t,xt] rt #[.slice base len cap,y']).run P w=.ok (.slice base (len+n) cap) w1:=by
 have hsz:(sizeOf e).run P w=.ok i.size w:=by simp [sizeOf,typeInfo,hi]
 simp only [Builtin.append_,List.getElem?_toArray,List.getElem?_cons_zero,List.getElem?_cons_succ,Sem.run_bind,und_run hu,Result.andThen_ok,hsz,und_run hxu]
 cases base with
 | none =>
  subst hst
  rcases hno with ⟨e2,rfl⟩ | rfl <;> simp [hly,hle,hnew]
 | some a=>rcases hno with ⟨e2,rfl⟩ | rfl <;> simp [hly,hle,hnew,hst]
theorem append_new {t xt rt e:TypeId} {xu:TypeDesc} {i:TypeInfo} (hu:P.underlying t=some (.slice e)) (hxu:P.underlying xt=some xu) (hno:(∃ e2,xu=.slice e2)∨xu=.string) (hi:P.info? e=some i)
 {base:Option Addr} {len cap n:Nat} {y' zv:Value} {w:World} {old new:List Value} (hly:(Builtin.lenOf y').run P w=.ok n w) (hle:¬ len+n≤cap) (hold:(Builtin.firstCells i.size len (.slice base len cap)).run P w.drew=.ok old.toArray w.drew)
 (hnew:(Builtin.firstCells i.size n y').run P w.drew=.ok new.toArray w.drew) (hz:i.zero=some zv) (hb:(len+n)*i.bytes≤140737488355328) (hb2:len+n≤140737488355328) :
 ∃ newCap,len+n≤newCap∧(Builtin.append_ #[t,xt] rt #[.slice base len cap,y']).run P w=.ok (.slice (some ⟨w.heap.size,0,none⟩) (len+n) newCap)
  (w.drew.alloc (.cells (old.toArray++new.toArray++Builtin.zeroCells zv.cells (newCap-(len+n))) e)):=by
 have hsz:(sizeOf e).run P w=.ok i.size w:=by simp [sizeOf,typeInfo,hi]
 have hfit:¬ (Builtin.nextslicecap (len+n) cap*i.bytes>2^48):=Nat.not_lt.2 (growslice_fits (by omega) hb)
 have hbig:¬ (((len+n:Nat):Int)>IntKind.i64.max):=by
  have:IntKind.i64.max=9223372036854775807:=rfl
  rw [this]; intro h; omega
 have hzr:∀ W:World,(zeroValue e).run P W=.ok zv W:=fun W=>by simp [zeroValue,typeInfo,hi,hz]
 refine ⟨len+n+w.tape w.drawn (.appendCap (len+n) cap e) % (2^63-(len+n)),by omega,?_⟩
 have hq:(Question.appendCap (len+n) cap e).forced=false:=rfl
 have hcut:(Question.appendCap (len+n) cap e).cut (w.tape w.drawn (.appendCap (len+n) cap e))=len+n+w.tape w.drawn (.appendCap (len+n) cap e) % (2^63-(len+n)):=rfl
 rcases hno with ⟨e2,rfl⟩ | rfl
 · simp only [Builtin.append_,List.getElem?_toArray,List.getElem?_cons_zero,List.getElem?_cons_succ,Sem.run_bind,und_run hu,Result.andThen_ok,hsz,und_run hxu,Sem.run_pure,Bool.false_eq_true,if_false,hly,hle,Bool.not_false,if_true]
   rw [info_run hi,Result.andThen_ok,if_neg (fun h=>hbig h.1),Sem.run_bind,info_run hi,Result.andThen_ok,if_neg hfit]
   simp only [Sem.run_bind,run_choose,hq,Bool.false_eq_true,if_false,Result.andThen_ok,info_run hi,run_askRoom,hcut]
   rw [show ({ w with drawn:=w.drawn+1 }:World)=w.drew from rfl,hold,Result.andThen_ok,hnew,Result.andThen_ok,hzr,Result.andThen_ok]
   simp only [newRow,Sem.run_bind,run_newObj,Result.andThen_ok,Sem.run_pure]
   rfl
 · simp only [Builtin.append_,List.getElem?_toArray,List.getElem?_cons_zero,List.getElem?_cons_succ,Sem.run_bind,und_run hu,Result.andThen_ok,hsz,und_run hxu,Sem.run_pure,Bool.false_eq_true,if_false,hly,hle,Bool.not_false,if_true]
   rw [info_run hi,Result.andThen_ok,if_neg (fun h=>hbig h.1),Sem.run_bind,info_run hi,Result.andThen_ok,if_neg hfit]
   simp only [Sem.run_bind,run_choose,hq,Bool.false_eq_true,if_false,Result.andThen_ok,info_run hi,run_askRoom,hcut]
   rw [show ({ w with drawn:=w.drawn+1 }:World)=w.drew from rfl,hold,Result.andThen_ok,hnew,Result.andThen_ok,hzr,Result.andThen_ok]
   simp only [newRow,Sem.run_bind,run_newObj,Result.andThen_ok,Sem.run_pure]
   rfl
theorem append_room {E:Env} {s:St H} {w:World} (hW:WRel E s w) {id o len n z cap:Nat} {r old new new':List Value} (hr:rowD s id=some r) (hold:takeD r o (len*z)=some old)
 (hn:LRel E new new') (hnl:new.length=n*z) (ho:new.all oneC=true) (hfit:len+n≤cap) (hroom:E.off id+o+cap*z≤E.sz id) :
 (storeCells ((⟨E.blk id,E.off id+o,none⟩:Addr).add (len*z)) new').run P w=.ok () (w.setCells (E.blk id) (E.off id+o+len*z) new') ∧
 WRel (E.add (E.blk id) (E.off id+o) (E.sz id)) (newD { s with h:=H.put s.h id none } (.row (old++new))) (w.setCells (E.blk id) (E.off id+o+len*z) new') ∧
 Keep E w (E.add (E.blk id) (E.off id+o) (E.sz id)) (w.setCells (E.blk id) (E.off id+o+len*z) new'):=by
 have hg:=rowD_eq hr
 have hrow:=hW.row hg
 have hlt:=hW.lt _ _ hg
 obtain ⟨e,hsh⟩:=hrow.shape
 have hown:E.own id=true:=hrow.own
 have hmul:len*z+n*z≤cap*z:=by rw [← Nat.add_mul]; exact Nat.mul_le_mul_right _ hfit
 have hlen':new'.length=n*z:=hn.1.symm.trans hnl
 have hin:∀ j,j<new'.length→(w.cell? ⟨E.blk id,E.off id+o+len*z+j,none⟩).isSome=true:=fun j hj=>cell_of_shape hsh _ (by omega)
 have hA:=E.le_add (E.blk id) (E.off id+o) (E.sz id)
 obtain ⟨hol,holen⟩:=takeD_eq hold
 refine ⟨?_,?_,?_⟩
 · rw [addr_add]
   have:=run_storeCells_cells (P:=P) (E.blk id) (E.off id+o+len*z) new' 0 w (fun j hj=>by simpa using hin j hj) (fun j hj=>hrow.free _ (by omega)) (hn.oneC ho)
   simpa using this
 · refine (hW.kill id).new (E.blk id) (E.off id+o) (E.sz id) _ rfl (by rw [size_setCells]; exact hW.blt id hlt hown) (by rw [size_setCells]; exact Nat.le_refl _) (fun k _ hk=>heap_setCells _ _ _ _ _ hk) (fun i oi hi hoi e=>?_) (hW.tbo id _ hg hown) (fun o' v hv=>(hW.frz _ _ _ hv).2 id _ hg hown rfl) ?_
   · simp only [H.get_put] at hi
     split at hi
     · cases hi
     · rename_i hne
       exact hW.inj id i _ oi hg hi (fun e=>hne e.symm) hown hoi e.symm
   · refine ⟨⟨e,by rw [shape_setCells]; simpa using hsh⟩,by simp [hnl,holen]; omega,fun i hi=>?_,by simp,fun o' ho'=>by rw [World.frozen?_setCells]; simpa using hrow.free o' (by simpa using ho')⟩
     simp only [Env.add_blk,Env.add_off]
     by_cases hio:i<old.length
     · have hile:o+len*z≤r.length:=takeD_len hold (by omega)
       obtain ⟨v',hv,hrel⟩:=hrow.cell (o+i) (by omega)
       refine ⟨v',?_,?_⟩
       · rw [World.cell?_setCells_out _ _ _ _ _ (fun _ _=>.inl (by simp only; omega))]
         rw [Nat.add_assoc]; exact hv
       · rw [List.getElem_append_left hio]
         have:old[i]=r[o+i]'(by omega):=by subst hol; simp
         rw [this]; exact hrel.mono hA
     · have hi2:i-old.length<new.length:=by simp at hi; omega
       have hi3:i-old.length<new'.length:=hn.1 ▸ hi2
       refine ⟨new'[i-old.length],?_,?_⟩
       · have:=World.cell?_setCells_in (E.blk id) new' (E.off id+o+len*z) w hin (i-old.length) hi3
         rwa [show E.off id+o+len*z+(i-old.length)=E.off id+o+i by omega] at this
       · rw [List.getElem_append_right (by omega)]
         exact (hn.2 _ hi2 hi3).mono hA
 · obtain ⟨r1,r2,r3⟩:=rest_setCells (E.blk id) new' (E.off id+o+len*z) w
   refine ⟨hA,fun i a b c=>.inl ⟨id,hlt,hown,?_⟩,fun _ h=>.inl h,r1,r2,r3,Nat.le_of_eq (size_setCells _ _ _ _).symm,fun b hb hnn _=>heap_setCells _ _ _ _ _ (fun e=>hnn id hlt hown e.symm),fun _ _ _ _ _=>rfl⟩
   have:i=E.n:=by have:i<E.n+1:=b; omega
   subst this; simp
theorem repeatL_len (n:Nat) (l:List Value):(repeatL n l).length=n*l.length:=by
 induction n with
 | zero=>simp [repeatL]
 | succ n ih=>simp [repeatL,ih,Nat.succ_mul]; omega
theorem repeatL_get (n:Nat) (l:List Value) (i:Nat) (h:i<(repeatL n l).length):∃ h2:i % l.length<l.length,(repeatL n l)[i]=l[i % l.length]:=by
 induction n generalizing i with
 | zero=>simp [repeatL] at h
 | succ n ih =>
  by_cases hi:i<l.length
  · refine ⟨by rw [Nat.mod_eq_of_lt hi]; exact hi,?_⟩
    simp only [repeatL,Nat.mod_eq_of_lt hi]
    rw [List.getElem_append_left hi]
  · have h2:i-l.length<(repeatL n l).length:=by simp [repeatL] at h; omega
    obtain ⟨k,hk⟩:=ih (i-l.length) h2
    have hm:(i-l.length) % l.length=i % l.length:=(Nat.mod_eq_sub_mod (by omega)).symm
    refine ⟨hm ▸ k,?_⟩
    simp only [repeatL]
    rw [List.getElem_append_right (by omega),hk]
    simp only [hm]
def Env.tok0 (E:Env) (L z:Nat):Env where
 n:=E.n+1
 blk:=E.blk
 off:=E.off
 sz:=E.sz
 own:=fun k=>if k=E.n then false else E.own k
 fz:=E.fz
 tk:=fun k=>if k=E.n then fun L'=>if L'=L then some (0,0,0,z) else none else E.tk k
 tb:=E.tb
theorem Env.le_tok0 (E:Env) (L z:Nat):E.Le (E.tok0 L z) :=
 ⟨Nat.le_succ _,fun i _=>rfl,fun i _=>rfl,fun i _=>rfl,fun i hi=>by simp only [Env.tok0]; rw [if_neg (by omega)],fun _ _ _ h=>h,fun i hi L' r h=>by simp only [Env.tok0]; rw [if_neg (by omega)]; exact h,fun _ h=>h⟩
theorem tok0_ok {E:Env} {s:St H} {w:World} (h:WRel E s w) (L z:Nat):WRel (E.tok0 L z) (newD s (.tok L z)) w∧Keep E w (E.tok0 L z) w:=by
 have hle:=E.le_tok0 L z
 have hget:∀ i,H.get (newD s (.tok L z)).h i=if i=E.n then some (.tok L z) else H.get s.h i:=fun i=>by simp only [newD,H.get_put,h.n]
 have hownN:(E.tok0 L z).own E.n=false:=by simp [Env.tok0]
 have htk:∀ i,i<E.n→(E.tok0 L z).tk i=E.tk i:=fun i hi=>by simp only [Env.tok0]; rw [if_neg (by omega)]
 have htkN:∀ L',(E.tok0 L z).tk E.n L'=if L'=L then some (0,0,0,z) else none:=fun L'=>by simp [Env.tok0]
 have old:∀ {i oi},H.get s.h i=some oi→i≠E.n:=fun hg e=>by have:=h.lt _ _ hg; omega
 constructor
 · refine ⟨by simp [newD,h.n,Env.tok0],fun i hi ho=>?_,fun i oi hg=>?_,fun i j oi oj hi hj hij ho ho'=>?_,fun i oi hg=>?_,fun i j L1 y L' y' bb f t f' t' hi hj hij q1 q2 q3 q4=>?_,fun i oi hg ho=>?_,fun bb oo v hv=>?_,h.tbl,fun g cs hg=>(h.glb g cs hg).mono hle⟩
   · by_cases e:i=E.n
     · subst e; rw [hownN] at ho; cases ho
     · have hi':i<E.n:=by have:i<E.n+1:=hi; omega
       exact h.blt i hi' (by rw [← hle.own i hi']; exact ho)
   · rw [hget] at hg
     by_cases e:i=E.n
     · subst e; exact Nat.lt_succ_self _
     · rw [if_neg e] at hg; exact Nat.lt_succ_of_lt (h.lt i oi hg)
   · rw [hget] at hi hj
     by_cases e:i=E.n
     · subst e; rw [hownN] at ho; cases ho
     · by_cases e2:j=E.n
       · subst e2; rw [hownN] at ho'; cases ho'
       · rw [if_neg e] at hi
         rw [if_neg e2] at hj
         exact h.inj i j oi oj hi hj hij (by rw [← hle.own i (h.lt i oi hi)]; exact ho) (by rw [← hle.own j (h.lt j oj hj)]; exact ho')
   · rw [hget] at hg
     by_cases e:i=E.n
     · subst e; rw [if_pos rfl] at hg; injection hg with hg; subst hg
       refine ⟨hownN,fun L' hL=>by rw [htkN,if_neg (by omega)],0,0,0,by rw [htkN,if_pos rfl],fun h=>absurd h (Nat.lt_irrefl _)⟩
     · rw [if_neg e] at hg
       have hi':=h.lt i _ hg
       have hR:=h.obj i oi hg
       cases hq:owned oi with
       | true=>exact hR.of_block hq hle hi' rfl
       | false =>
        cases oi with
        | tok L1 y=>exact TokRel.of_block hR (by rw [hle.own i hi']; exact hR.own) (fun L'=>by rw [htk i hi']) (fun _ q=>q) (Nat.le_refl _) fun bb f t q1 q2=>⟨rfl,fun oo _ _=>⟨rfl,rfl⟩⟩
        | _=>cases hq
   · rw [hget] at hi hj
     by_cases e:i=E.n
     · subst e
       rw [htkN] at q1
       split at q1
       · injection q1 with q1; injection q1 with _ q1; injection q1 with e1 q1; injection q1 with e2 _; omega
       · cases q1
     · by_cases e2:j=E.n
       · subst e2
         rw [htkN] at q3
         split at q3
         · injection q3 with q3; injection q3 with _ q3; injection q3 with e1 q3; injection q3 with e2 _; omega
         · cases q3
       · rw [if_neg e] at hi
         rw [if_neg e2] at hj
         rw [htk i (h.lt i _ hi)] at q1
         rw [htk j (h.lt j _ hj)] at q3
         exact h.tinj i j L1 y L' y' bb f t f' t' hi hj hij q1 q2 q3 q4
   · rw [hget] at hg
     by_cases e:i=E.n
     · subst e; rw [hownN] at ho; cases ho
     · rw [if_neg e] at hg; exact h.tbo i oi hg (by rw [← hle.own i (h.lt i oi hg)]; exact ho)
   · obtain ⟨h1,h2⟩:=h.frz bb oo v hv
     refine ⟨h1,fun i xi hg ho=>?_⟩
     rw [hget] at hg
     by_cases e:i=E.n
     · subst e; rw [hownN] at ho; cases ho
     · rw [if_neg e] at hg; exact h2 i xi hg (by rw [← hle.own i (h.lt i xi hg)]; exact ho)
 · refine ⟨hle,fun i a b c=>?_,fun _ h=>.inl h,rfl,rfl,rfl,Nat.le_refl _,fun _ _ _ _=>rfl,fun _ _ _ _ _=>rfl⟩
   have:i=E.n:=by have:i<E.n+1:=b; omega
   subst this; rw [hownN] at c; cases c
def Env.upd (E:Env) (i L:Nat) (r:Nat×Nat×Nat×Nat) (b p:Nat) (l:List Value):Env where
 n:=if i<E.n then E.n else E.n+1
 blk:=E.blk
 off:=E.off
 sz:=E.sz
 own:=fun k=>if k=i then false else E.own k
 fz:=fun b' o'=>if b'=b∧p≤o'∧o'<p+l.length then l[o'-p]? else E.fz b' o'
 tk:=fun k=>if k=i then fun L'=>if L'=L then some r else if i<E.n then E.tk i L' else none else E.tk k
 tb:=fun b'=>decide (b'=b)||E.tb b'
theorem room_ok {E:Env} {s s':St H} {w w':World} (h:WRel E s w) {i L z b p f t:Nat} {l:List Value}
 (hi:(i=E.n∧s'=newD s (.tok L z))∨(i<E.n∧(∃ L0,H.get s.h i=some (.tok L0 z)∧L0<L)∧s'=putD s i (.tok L z)))
 (hsz:w.heap.size≤w'.heap.size) (hb:b<w'.heap.size) (hkeep:∀ k,k<w.heap.size→k≠b→w'.heap[k]?=w.heap[k]?) (hbb:w.heap.size≤b∨E.tb b=true)
 (hold:∀ o v,E.fz b o=some v→w'.cell? ⟨b,o,none⟩=some v) (hnew:∀ k (hk:k<l.length),w'.cell? ⟨b,p+k,none⟩=some l[k]) (hdis:∀ k,k<l.length→E.fz b (p+k)=none)
 (hreg:f<t→p+l.length≤f∧(∃ e n,w'.shape? b=some (e,n)∧t≤n)∧∀ o,f≤o→o<t→w'.frozen? ⟨b,o,none⟩=false∧E.fz b o=none)
 (hoth:∀ j L' z' f' t',H.get s.h j=some (.tok L' z')→j≠i→E.tk j L'=some (b,f',t',z')→f'<t'→False)
 (hrest:w'.os=w.os∧w'.tape=w.tape∧w'.output=w.output) :
 WRel (E.upd i L (b,f,t,z) b p l) s' w'∧Keep E w (E.upd i L (b,f,t,z) b p l) w':=by
 have hiN:i≤E.n:=by rcases hi with ⟨e,_⟩ | ⟨e,_⟩ <;> omega
 have hn':(E.upd i L (b,f,t,z) b p l).n=if i<E.n then E.n else E.n+1:=rfl
 have hnn:E.n≤(E.upd i L (b,f,t,z) b p l).n∧i<(E.upd i L (b,f,t,z) b p l).n∧∀ k,k<(E.upd i L (b,f,t,z) b p l).n→k<E.n∨k=i:=by
  rw [hn']; split
  · exact ⟨Nat.le_refl _,by omega,fun k hk=>.inl hk⟩
  · exact ⟨Nat.le_succ _,by omega,fun k hk=>by omega⟩
 obtain ⟨hn1,hn2,hn3⟩:=hnn
 have hget:∀ k,H.get s'.h k=if k=i then some (.tok L z) else H.get s.h k:=fun k=>by
  rcases hi with ⟨rfl,rfl⟩ | ⟨_,_,rfl⟩
  · simp only [newD,H.get_put,h.n]
  · simp only [putD,H.get_put]
 have hsn:(E.upd i L (b,f,t,z) b p l).n=s'.n:=by
  rcases hi with ⟨rfl,rfl⟩ | ⟨e,_,rfl⟩
  · rw [hn',if_neg (Nat.lt_irrefl _)]; simp [newD,h.n]
  · rw [hn',if_pos e]; exact h.n
 have hold_own:i<E.n→E.own i=false:=fun e=>by
  rcases hi with ⟨e2,_⟩ | ⟨_,⟨L0,hg,_⟩,_⟩
  · omega
  · exact TokRel.own (h.obj i _ hg)
 have hown:∀ k,k<E.n→(E.upd i L (b,f,t,z) b p l).own k=E.own k:=fun k hk=>by
  simp only [Env.upd]
  split
  · rename_i e; subst e; exact (hold_own hk).symm
  · rfl
 have howni:(E.upd i L (b,f,t,z) b p l).own i=false:=by simp [Env.upd]
 have hfzle:∀ b' o v,E.fz b' o=some v→(E.upd i L (b,f,t,z) b p l).fz b' o=some v:=fun b' o v hv=>by
  simp only [Env.upd]
  split
  · rename_i hc
    obtain ⟨rfl,c1,c2⟩:=hc
    have:=hdis (o-p) (by omega)
    rw [show p+(o-p)=o from by omega] at this
    rw [this] at hv; cases hv
  · exact hv
 have htk:∀ k,k≠i→(E.upd i L (b,f,t,z) b p l).tk k=E.tk k:=fun k hk=>by simp only [Env.upd]; rw [if_neg hk]
 have htki:∀ L',(E.upd i L (b,f,t,z) b p l).tk i L'=if L'=L then some (b,f,t,z) else if i<E.n then E.tk i L' else none:=fun L'=>by simp [Env.upd]
 have hle:E.Le (E.upd i L (b,f,t,z) b p l):=by
  refine ⟨hn1,fun _ _=>rfl,fun _ _=>rfl,fun _ _=>rfl,hown,hfzle,fun k hk L' r hr=>?_,fun b' hb'=>by simp [Env.upd,hb']⟩
  by_cases e:k=i
  · subst e
    rw [htki]
    by_cases e2:L'=L
    · exfalso
      rcases hi with ⟨e3,_⟩ | ⟨_,⟨L0,hg,hL⟩,_⟩
      · omega
      · have:=(h.obj k _ hg:TokRel E w k L0 z).top L (by omega)
        rw [e2,this] at hr; cases hr
    · rw [if_neg e2,if_pos hk]; exact hr
  · rw [htk k e]; exact hr
 have hblk:∀ k,(E.upd i L (b,f,t,z) b p l).blk k=E.blk k:=fun _=>rfl
 -- owned objects lie elsewhere
 have helse:∀ k o,H.get s.h k=some o→E.own k=true→E.blk k≠b:=fun k o hg ho e=>by
  rcases hbb with hbb | hbb
  · have:=h.blt k (h.lt k o hg) ho; omega
  · have:=h.tbo k o hg ho; rw [e,hbb] at this; cases this
 constructor
 · refine ⟨hsn,fun k hk ho=>?_,fun k o hg=>?_,fun k j ok oj hk hj hkj ho ho'=>?_,fun k o hg=>?_,fun k j L1 y L' y' bb f1 t1 f' t' hk hj hkj q1 q2 q3 q4=>?_,fun k o hg ho=>?_,fun bb oo v hv=>?_,fun bb hq=>?_,fun g cs hg=>(h.glb g cs hg).mono hle⟩
   · rcases hn3 k hk with hk | rfl
     · exact Nat.lt_of_lt_of_le (h.blt k hk (by rw [← hown k hk]; exact ho)) hsz
     · rw [howni] at ho; cases ho
   · rw [hget] at hg
     by_cases e:k=i
     · subst e; exact hn2
     · rw [if_neg e] at hg; exact Nat.lt_of_lt_of_le (h.lt k o hg) hn1
   · rw [hget] at hk hj
     by_cases e:k=i
     · subst e; rw [howni] at ho; cases ho
     · by_cases e2:j=i
       · subst e2; rw [howni] at ho'; cases ho'
       · rw [if_neg e] at hk
         rw [if_neg e2] at hj
         exact h.inj k j ok oj hk hj hkj (by rw [← hown k (h.lt k ok hk)]; exact ho) (by rw [← hown j (h.lt j oj hj)]; exact ho')
   · rw [hget] at hg
     by_cases e:k=i
     · subst e; rw [if_pos rfl] at hg; injection hg with hg; subst hg
       refine ⟨howni,fun L' hL=>?_,b,f,t,by rw [htki,if_pos rfl],fun hft=>?_⟩
       · rw [htki,if_neg (by omega)]
         split
         · rcases hi with ⟨e3,_⟩ | ⟨_,⟨L0,hg,hL0⟩,_⟩
           · omega
           · exact (h.obj k _ hg:TokRel E w k L0 z).top L' (by omega)
         · rfl
       · obtain ⟨r1,r2,r3⟩:=hreg hft
         refine ⟨hb,by simp [Env.upd],r2,fun o h1 h2=>⟨(r3 o h1 h2).1,?_⟩⟩
         simp only [Env.upd]
         rw [if_neg (by omega)]; exact (r3 o h1 h2).2
     · rw [if_neg e] at hg
       have hk':=h.lt k _ hg
       have hR:=h.obj k o hg
       cases hq:owned o with
       | true=>exact hR.of_block hq hle hk' (hkeep _ (h.blt k hk' (hR.own.trans hq)) (helse k o hg (hR.own.trans hq)))
       | false =>
        cases o with
        | tok L1 y =>
          refine TokRel.of_block hR (by rw [hown k hk']; exact hR.own) (fun L'=>by rw [htk k e]) (fun b' q=>by simp [Env.upd,q]) hsz fun bb f1 t1 q1 q2=>?_
          have hne:bb≠b:=fun e4=>hoth k L1 y f1 t1 hg e (e4 ▸ q1) q2
          obtain ⟨_,_,b',f2,t2,r1,r2⟩:=hR
          rw [r1] at q1; injection q1 with q1; injection q1 with e1 q1; injection q1 with e2 q1; injection q1 with e3 q1
          subst e1 e2 e3
          obtain ⟨a1,a2,_⟩:=r2 q2
          have e5:=hkeep b' a1 hne
          exact ⟨shape_of_block e5,fun oo _ _=>⟨World.frozen?_of_block (w:=w) (by exact e5),by simp only [Env.upd]; rw [if_neg (fun hc=>hne hc.1)]⟩⟩
        | _=>cases hq
   · rw [hget] at hk hj
     by_cases e:k=i
     · subst e
       have e2:j≠k:=fun e2=>hkj e2.symm
       rw [if_pos rfl] at hk; injection hk with hk; injection hk with e3 e4; subst e3 e4
       rw [if_neg e2] at hj
       rw [htki,if_pos rfl] at q1
       injection q1 with q1; injection q1 with e5 q1; subst e5
       rw [htk j e2] at q3
       exact hoth j L' y' f' t' hj e2 q3 q4
     · rw [if_neg e] at hk
       by_cases e2:j=i
       · subst e2
         rw [if_pos rfl] at hj; injection hj with hj; injection hj with e3 e4; subst e3 e4
         rw [htki,if_pos rfl] at q3
         injection q3 with q3; injection q3 with e5 q3; subst e5
         rw [htk k e] at q1
         exact hoth k L1 y f1 t1 hk e q1 q2
       · rw [if_neg e2] at hj
         rw [htk k e] at q1
         rw [htk j e2] at q3
         exact h.tinj k j L1 y L' y' bb f1 t1 f' t' hk hj hkj q1 q2 q3 q4
   · rw [hget] at hg
     by_cases e:k=i
     · subst e; rw [howni] at ho; cases ho
     · rw [if_neg e] at hg
       have ho':E.own k=true:=by rw [← hown k (h.lt k o hg)]; exact ho
       simp only [Env.upd,Bool.or_eq_false_iff,decide_eq_false_iff_not]
       exact ⟨helse k o hg ho',h.tbo k o hg ho'⟩
   · have hoo:∀ k x,H.get s'.h k=some x→(E.upd i L (b,f,t,z) b p l).own k=true→H.get s.h k=some x∧E.own k=true:=fun k x hg ho=>by
      rw [hget] at hg
      by_cases e:k=i
      · subst e; rw [howni] at ho; cases ho
      · rw [if_neg e] at hg
        exact ⟨hg,by rw [← hown k (h.lt k x hg)]; exact ho⟩
     have hv':(if bb=b∧p≤oo∧oo<p+l.length then l[oo-p]? else E.fz bb oo)=some v:=hv
     split at hv'
     · rename_i hc
       obtain ⟨rfl,c1,c2⟩:=hc
       have hlt:oo-p<l.length:=by omega
       rw [List.getElem?_eq_getElem hlt] at hv'
       injection hv' with hv'
       refine ⟨?_,fun k x hg ho=>?_⟩
       · have:=hnew (oo-p) hlt
         rw [show p+(oo-p)=oo from by omega,hv'] at this; exact this
       · obtain ⟨g1,g2⟩:=hoo k x hg ho
         exact helse k x g1 g2
     · obtain ⟨h1,h2⟩:=h.frz bb oo v hv'
       refine ⟨?_,fun k x hg ho=>?_⟩
       · by_cases e:bb=b
         · subst e; exact hold oo v hv'
         · rw [World.cell?_of_block (w:=w) (by exact hkeep bb (h.fz_lt hv') e)]; exact h1
       · obtain ⟨g1,g2⟩:=hoo k x hg ho
         exact h2 k x g1 g2
   · simp only [Env.upd,Bool.or_eq_true,decide_eq_true_eq] at hq
     rcases hq with rfl | hq
     · exact hb
     · exact Nat.lt_of_lt_of_le (h.tbl bb hq) hsz
 · refine ⟨hle,fun k a c d=>?_,fun bb hq=>?_,hrest.1,hrest.2.1,hrest.2.2,hsz,fun bb h1 h2 h3=>hkeep bb h1 (fun e=>?_),fun bb h1 h2 h3 o=>if_neg (fun q=>?_)⟩
   · rcases hn3 k c with hk | rfl
     · omega
     · rw [howni] at d; cases d
   · simp only [Env.upd,Bool.or_eq_true,decide_eq_true_eq] at hq
     rcases hq with rfl | hq
     · rcases hbb with hbb | hbb
       · exact .inr (.inr hbb)
       · exact .inl hbb
     · exact .inl hq
   · rcases hbb with hbb | hbb
     · omega
     · rw [e,hbb] at h3; cases h3
   · rcases hbb with hbb | hbb
     · have:=q.1; omega
     · rw [q.1,hbb] at h3; cases h3
end Go.FS
