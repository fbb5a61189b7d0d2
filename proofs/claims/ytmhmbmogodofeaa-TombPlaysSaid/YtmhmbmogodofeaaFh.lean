import Derived.Test.YtmhmbmogodofeaaFg
import Derived.IntWalk
namespace Go.FS
open Go.RowKit
variable {P:Program} {H:HeapI}
theorem copy_ok {E:Env} {s:St H} {w:World} (hW:WRel E s w) {t:TypeId} {ats:List TypeId} {rt:TypeId} {d d' x x':Value} {p:Value×St H} (hd:VRel E d d') (hx:VRel E x x') (h:copyD P s t d x=some p) :
 Goes E w p.2 p.1 ((Builtin.copy_ (t::ats).toArray rt #[d',x']).run P w):=by
 unfold copyD at h
 split at h
 next e hu =>
  obtain ⟨z,hz,h⟩:=bsome h
  obtain ⟨n,hn,h⟩:=bsome h
  obtain ⟨m,hm,h⟩:=bsome h
  have hlx:=len_ok (P:=P) hx hn w
  have hsz:=sizeD_run hz w
  by_cases h0:Nat.min n m=0
  · rw [h0] at h
    simp only [beq_yes,cond_true] at h
    have hfc:(Builtin.firstCells z 0 x').run P w=.ok #[] w:=by
     unfold lenD at hn
     split at hn
     · cases hx; simp [Builtin.firstCells,loadCells_none]
     · obtain ⟨hf,hn⟩:=csome hn
       obtain ⟨z',base,cap,b,o,f,rfl,_⟩:=hx.fz_inv hf
       cases base <;> simp [Builtin.firstCells,loadCells_none]
     · cases hx; simp [Builtin.firstCells]
     · cases hn
    have hst:∀ a:Addr,(storeCells a ([]:List Value)).run P w=.ok () w:=fun a=>rfl
    unfold lenD at hm
    split at hm
    · cases hd with
      | slice id o len c a cap hid hl h2 ha =>
       injection hm with hm
       subst hm
       injection h with h; subst h
       refine ⟨E,_,w,?_,.int .i64 0,hW,.refl E w⟩
       simp [Builtin.copy_,und_run hu,hlx,hsz,h0,hfc,hst,goInt]
    · obtain ⟨hf,hm⟩:=csome hm
      obtain ⟨z',base,cap,b,o,f,rfl,_⟩:=hd.fz_inv hf
      injection hm with hm
      subst hm
      injection h with h; subst h
      refine ⟨E,_,w,?_,.int .i64 0,hW,.refl E w⟩
      cases base with
      | none=>simp [Builtin.copy_,und_run hu,hlx,hsz,h0,hfc,goInt]
      | some a=>simp [Builtin.copy_,und_run hu,hlx,hsz,h0,hfc,hst,goInt]
    · cases h
    · cases hm
  · rw [beq_no h0] at h
    simp only [cond_false] at h
    obtain ⟨l,hl,h⟩:=bsome h
    obtain ⟨l',hfc,hlr,hlen⟩:=cells_ok (P:=P) hW hx hl
    cases hd with
    | slice id o len c a cap hid hle h2 ha =>
     obtain rfl:len=m:=by injection hm
     simp only at h
     obtain ⟨hc,h⟩:=csome h
     obtain ⟨s',hs,rfl⟩:=msome h
     have hpos:0<Nat.min n len:=Nat.pos_of_ne_zero h0
     have hcap:cap≠0:=by have:Nat.min n len≤len:=Nat.min_le_right _ _; omega
     rcases ha with rfl | ⟨_,rfl,_⟩
     · exact absurd rfl hcap
     obtain ⟨k1,k2,k3⟩:=storeAt_ok (P:=P) hW hlr hs
     refine ⟨E,_,_,?_,.int .i64 _,k2,k3⟩
     simp [Builtin.copy_,und_run hu,hlx,hsz,hfc,k1,goInt]
    | _=>cases h
 next=>cases h
theorem makeSlice_run {t e:TypeId} {i:TypeInfo} {kl kc:IntKind} {l c:Int} {zv:Value} (hu:P.underlying t=some (.slice e)) (hi:P.info? e=some i) (hz:i.zero=some zv) (q1:0≤l) (q2:l≤c) (q3:i.bytes*c≤140737488355328) (q4:c≤140737488355328) (w:World) :
 ∃ zero:Array Value,(c.toNat*i.size=0∨zero=zv.cells)∧(Instr.makeSlice t (.int kl l) (.int kc c)).run P w =
  .ok (.slice (some ⟨w.heap.size,0,none⟩) l.toNat c.toNat) (w.alloc (.cells ((Array.range (c.toNat*i.size)).map (zero[· % zero.size]!)) e)):=by
 have wl:IntKind.i64.wrap l=l:=IntWalk.i64_in _ (by omega)
 have wc:IntKind.i64.wrap c=c:=IntWalk.i64_in _ (by omega)
 have hsz:(sizeOf e).run P w=.ok i.size w:=by simp [sizeOf,typeInfo,hi]
 have hzr:(zeroValue e).run P w=.ok zv w:=by simp [zeroValue,typeInfo,hi,hz]
 have hlarge:¬ ((i.bytes:Int)*c>2^48):=by intro h; have:(2:Int)^48=281474976710656:=rfl; omega
 by_cases h0:c.toNat*i.size=0
 · refine ⟨#[],.inl h0,?_⟩
   simp only [Instr.makeSlice,Sem.run_bind,und_run hu,Result.andThen_ok,asInt,asIntOf,Sem.run_pure,info_run hi,wl,wc]
   rw [if_neg (by simp; omega)]
   simp only [Sem.run_bind,run_askRoom,Result.andThen_ok,hsz]
   rw [if_pos h0]
   simp [newRow,h0]
 · refine ⟨zv.cells,.inr rfl,?_⟩
   simp only [Instr.makeSlice,Sem.run_bind,und_run hu,Result.andThen_ok,asInt,asIntOf,Sem.run_pure,info_run hi,wl,wc]
   rw [if_neg (by simp; omega)]
   simp only [Sem.run_bind,run_askRoom,Result.andThen_ok,hsz]
   rw [if_neg h0]
   simp [newRow,hzr]
theorem makeSlice_ok {md:Bool} {E:Env} {s:St H} {w:World} (hW:WRel E s w) {t:TypeId} {l l' c c':Value} {p:Value×St H} (hl:VRel E l l') (hc:VRel E c c') (h:makeSliceD P md s t l c=some p) :
 Goes E w p.2 p.1 ((Instr.makeSlice t l' c').run P w):=by
 unfold makeSliceD at h
 split at h
 next e kl l kc c hu =>
  obtain ⟨i,hi,h⟩:=bsome h
  obtain ⟨zs,hzs,h⟩:=bsome h
  obtain ⟨hq,h⟩:=csome h
  simp only [Bool.and_eq_true,decide_eq_true_eq] at hq
  obtain ⟨⟨⟨⟨q1,q2⟩,q3⟩,q4⟩,q5⟩:=hq
  have q5:=Nat.eq_of_beq_eq_true q5
  obtain rfl:=hl.int_inv
  obtain rfl:=hc.int_inv
  obtain ⟨i2,zv,hi2,hzv,hzc,hzf⟩:=zeroD_eq hzs
  rw [hi] at hi2
  injection hi2 with hi2
  subst hi2
  have hzsz:zv.cells.size=i.size:=by rw [← Array.length_toList,← q5,← hzc]; simp
  obtain ⟨zero,hzero,hrun⟩:=makeSlice_run (kl:=kl) (kc:=kc) hu hi hzv q1 q2 q3 q4 w
  rw [hrun]
  by_cases hl0:md=false∧l=0∧0<i.size
  · obtain ⟨hmd,hl0,hpos⟩:=hl0
    subst hl0 hmd
    rw [show Nat.blt 0 i.size=true from Nat.ble_eq_true_of_le hpos] at h
    simp only [decide_true,Bool.and_self,Bool.not_false,cond_true] at h
    injection h with h
    subst h
    have hb:(w.alloc (.cells ((Array.range (c.toNat*i.size)).map (zero[· % zero.size]!)) e)).heap[w.heap.size]?=some (.cells ((Array.range (c.toNat*i.size)).map (zero[· % zero.size]!)) e):=by
     show (w.heap.push _)[w.heap.size]?=_
     rw [Array.getElem?_push_size]
    have hsize:((Array.range (c.toNat*i.size)).map (zero[· % zero.size]!)).size=c.toNat*i.size:=by simp
    obtain ⟨h1,h2⟩:=room_ok (E:=E) (w':=w.alloc (.cells ((Array.range (c.toNat*i.size)).map (zero[· % zero.size]!)) e)) hW (i:=E.n) (L:=0) (z:=i.size) (b:=w.heap.size) (p:=0) (f:=0) (t:=c.toNat*i.size) (l:=[]) (.inl ⟨rfl,rfl⟩) (by simp) (by simp)
     (fun k hk _=>Below.heap_alloc _ _ _ hk) (.inl (Nat.le_refl _)) (fun o v hv=>(hW.no_fz (Nat.le_refl _) hv).elim) (fun k hk=>absurd hk (Nat.not_lt_zero k)) (fun k hk=>absurd hk (Nat.not_lt_zero k))
     (fun hft=>⟨by simp,⟨e,c.toNat*i.size,by simp only [World.shape?,hb,hsize],Nat.le_refl _⟩,fun o _ _=>⟨by simp only [World.frozen?,hb]; simp,by
      cases hq:E.fz w.heap.size o with
      | none=>rfl
      | some v=>exact (hW.no_fz (Nat.le_refl _) hq).elim⟩⟩)
     (fun j L' z' f' t' hj _ ht' hft=>by
      obtain ⟨_,_,b2,f2,t2,q1,q2⟩:=(hW.obj j _ hj:TokRel E w j L' z')
      rw [q1] at ht'; injection ht' with ht'; injection ht' with e1 ht'; injection ht' with e2 ht'; injection ht' with e3 _
      have:=(q2 (by omega)).1
      omega) ⟨rfl,rfl,rfl⟩
    refine ⟨_,_,_,rfl,?_,h1,h2⟩
    have:=fz_rel (E':=E.upd E.n 0 (w.heap.size,0,c.toNat*i.size,i.size) w.heap.size 0 []) (m:=E.n+3) (z:=i.size) (L:=0) (cap:=c.toNat) (b:=w.heap.size) (o:=0) (els:=[]) (cells:=[]) rfl (fun i hi=>absurd hi (Nat.not_lt_zero i)) (Nat.zero_le _) (fun i j hi=>absurd hi (Nat.not_lt_zero i)) ⟨fun e=>by omega,by omega⟩
     (fun id e=>by
      have e:id=E.n:=by omega
      subst e
      refine ⟨by simp [Env.upd],(w.heap.size,0,c.toNat*i.size,i.size),by simp [Env.upd],?_⟩
      exact .inr ⟨hpos,by simp⟩)
    rw [← hW.n]; exact this
  have hno:(!md&&(decide (l=0)&&Nat.blt 0 i.size))=false:=by
   cases hq:(!md&&(decide (l=0)&&Nat.blt 0 i.size)) with
   | false=>rfl
   | true =>
     simp only [Bool.and_eq_true,decide_eq_true_eq,Bool.not_eq_true'] at hq
     exact absurd ⟨hq.1,hq.2.1,Nat.le_of_ble_eq_true hq.2.2⟩ hl0
  rw [hno] at h
  simp only [cond_false] at h
  injection h with h
  subst h
  have hln:(repeatL l.toNat zs).length=l.toNat*i.size:=by rw [repeatL_len,q5]
  have hsize:((Array.range (c.toNat*i.size)).map (zero[· % zero.size]!)).size=c.toNat*i.size:=by simp
  have hmul:l.toNat*i.size≤c.toNat*i.size:=Nat.mul_le_mul_right _ (by omega)
  obtain ⟨h1,h2⟩:=newRow_ok hW (l:=repeatL l.toNat zs) (cells:=(Array.range (c.toNat*i.size)).map (zero[· % zero.size]!)) e (by rw [hln,hsize]; exact hmul) (fun j a b=>by
   obtain ⟨hj,hg⟩:=repeatL_get _ _ j a
   rcases hzero with h0 | rfl
   · rw [hsize] at b; omega
   have hj2:j % zv.cells.size<zv.cells.size:=by rw [hzsz,← q5]; exact hj
   have e1:((Array.range (c.toNat*i.size)).map (zv.cells[· % zv.cells.size]!))[j]=zv.cells[j % zv.cells.size]:=by
     simp only [Array.getElem_map,Array.getElem_range]
     rw [getElem!_pos zv.cells _ hj2]
   have e2:zs[j % zs.length]'hj=nz1 zv.cells[j % zv.cells.size]:=by
     subst hzc
     simp only [List.getElem_map,Array.getElem_toList,List.length_map,Array.length_toList]
   rw [e1,hg,e2]
   exact nz1_rel (List.all_eq_true.1 hzf _ (by simp)))
  refine ⟨_,_,_,rfl,?_,h1,h2⟩
  have hx:(bif decide (l=c) then 1 else 0)=0∨((bif decide (l=c) then 1 else 0)=1∧c.toNat=l.toNat):=by
   by_cases e:l=c
   · right; simp [e]
   · left; simp [e]
  have:=newSlice_rel E w.heap.size i.size l.toNat c.toNat _ _ hx (by omega) (Nat.le_of_eq hsize.symm)
  rw [← hW.n]; exact this
 next=>cases h
theorem setfold {E:Env} {l l':List Value} (hl:LRel E l l') (off:Nat):∀ (k:Nat) {cs cs':Array Value},LRel E cs.toList cs'.toList →
 LRel E ((l.zipIdx k).foldl (fun cs (c,j)=>cs.setIfInBounds (off+j) c) cs).toList ((l'.zipIdx k).foldl (fun cs (c,j)=>cs.setIfInBounds (off+j) c) cs').toList:=by
 induction l generalizing l' with
 | nil=>intro k cs cs' h; obtain rfl:=hl.unnil; simpa using h
 | cons v l ih =>
  intro k cs cs' h
  obtain ⟨v',l'',rfl,hv,hl'⟩:=hl.uncons
  simp only [List.zipIdx_cons,List.foldl_cons]
  refine ih hl' _ ?_
  rw [Array.toList_setIfInBounds,Array.toList_setIfInBounds]
  exact h.set _ hv
theorem cells_size {E:Env} {v v':Value} (h:VRel E v v') (hd:v.cells.toList.all oneC=true):v'.cells.size=v.cells.size:=by
 have:=(valCells h hd).1
 simpa using this.symm
theorem fill_ok {E:Env} (place:Nat→Option (Nat×Nat)):∀ (parts:List (Nat×Value)) {parts':List (Nat×Value)} {cs cs' out:Array Value},
 LRel E (parts.map (·.2)) (parts'.map (·.2))→parts.map (·.1)=parts'.map (·.1)→(parts.all fun x=>x.2.cells.toList.all oneC)=true→LRel E cs.toList cs'.toList→Instr.fill place cs parts=some out →
 ∃ out',Instr.fill place cs' parts'=some out'∧LRel E out.toList out'.toList
 | [],parts',cs,cs',out,hp,hi,ho,hc,h=>by
  have:parts'=[]:=by simpa using hp.unnil
  subst this
  simp only [Instr.fill] at h
  injection h with h; subst h
  exact ⟨cs',rfl,hc⟩
 | (i,v)::rest,parts',cs,cs',out,hp,hi,ho,hc,h=>by
  cases parts' with
  | nil=>have:=hp.1; simp at this
  | cons q rest' =>
   obtain ⟨i',v'⟩:=q
   simp only [List.map_cons] at hp hi
   obtain ⟨_,_,he,hv,hr⟩:=hp.uncons
   injection he with he1 he2
   subst he1 he2
   injection hi with hi1 hi2
   subst hi1
   simp only [List.all_cons,Bool.and_eq_true] at ho
   have hcs:=cells_size hv ho.1
   have hvc:=valCells hv ho.1
   simp only [Instr.fill] at h ⊢
   cases hpl:place i with
   | none=>rw [hpl] at h; cases h
   | some os =>
    obtain ⟨off,size⟩:=os
    rw [hpl] at h
    simp only at h ⊢
    have hsz:cs'.size=cs.size:=by have:=hc.1; simpa using this.symm
    by_cases hb:(v.cells.size≠size||decide (off+v.cells.size>cs.size))=true
    · rw [if_pos hb] at h; cases h
    · rw [if_neg hb] at h
      rw [hcs,hsz,if_neg hb]
      refine fill_ok place rest hr hi2 ho.2 ?_ h
      have:=setfold hvc off 0 hc
      simp only [← Array.foldl_toList,Array.toList_zipIdx]
      exact this
theorem foldset_size (off:Nat):∀ (l:List (Value×Nat)) (cs:Array Value),(l.foldl (fun cs (c,j)=>cs.setIfInBounds (off+j) c) cs).size=cs.size
 | [],_=>rfl
 | x::l,cs=>by simp only [List.foldl_cons]; rw [foldset_size off l]; simp
theorem fill_size (place:Nat→Option (Nat×Nat)):∀ (parts:List (Nat×Value)) {cs out:Array Value},Instr.fill place cs parts=some out→out.size=cs.size
 | [],cs,out,h=>by simp only [Instr.fill] at h; injection h with h; rw [h]
 | (i,v)::rest,cs,out,h=>by
  simp only [Instr.fill] at h
  split at h
  · cases h
  · split at h
    · cases h
    · rw [fill_size place rest h,← Array.foldl_toList]
      exact foldset_size _ _ _
theorem zero_arr {E:Env} {t:TypeId} {zero:Array Value} (h:(zeroD P t).map (·.toArray)=some zero):∃ i zv,P.info? t=some i∧i.zero=some zv∧LRel E zero.toList zv.cells.toList:=by
 obtain ⟨l,hl,rfl⟩:=msome h
 obtain ⟨i,zv,hi,hz,hc,hf⟩:=zeroD_eq hl
 exact ⟨i,zv,hi,hz,by simpa [← hc] using LRel.nz1 hf⟩
theorem run_mapM_places (P:Program) (w:World):∀ (l:List Field) {out:List (Nat×Nat)},(l.mapM fun (f:Field)=>(sizeD P f.type).map fun z=>(f.offset,z))=some out →
 (l.mapM fun f=>do pure (f.offset,← sizeOf f.type):Sem (List (Nat×Nat))).run P w=.ok out w
 | [],out,h=>by simp at h; subst h; rfl
 | f::l,out,h=>by
  simp only [List.mapM_cons] at h ⊢
  obtain ⟨a,ha,h⟩:=bsome h
  obtain ⟨b,hb,h⟩:=bsome h
  injection h with h
  subst h
  obtain ⟨z,hz,rfl⟩:=msome ha
  simp only [Sem.run_bind,sizeD_run hz,Result.andThen_ok,Sem.run_pure,run_mapM_places P w l hb]
theorem build_ok {E:Env} {t:TypeId} {parts parts':List (Nat×Value)} {v:Value} (hp:LRel E (parts.map (·.2)) (parts'.map (·.2))) (hi:parts.map (·.1)=parts'.map (·.1)) (h:buildD P t parts=some v) (w:World) :
 ∃ v',(Instr.build t parts'.toArray).run P w=.ok v' w∧VRel E v v':=by
 unfold buildD at h
 obtain ⟨zero,hz,h⟩:=bsome h
 obtain ⟨i,zv,hinfo,hzv,hzr⟩:=zero_arr (E:=E) hz
 have ho:(parts.all fun x=>x.2.cells.toList.all oneC)=true:=by
  cases hq:(parts.all fun x=>x.2.cells.toList.all oneC) with
  | true=>rfl
  | false=>rw [hq] at h; cases h
 rw [ho] at h
 simp only [Bool.not_true,cond_false] at h
 have hzrun:(zeroValue t).run P w=.ok zv w:=by simp [zeroValue,typeInfo,hinfo,hzv]
 split at h
 next fields hu =>
  obtain ⟨places,hpl,h⟩:=bsome h
  obtain ⟨cells,hf,rfl⟩:=msome h
  obtain ⟨out',h1,h2⟩:=fill_ok _ parts hp hi ho hzr hf
  refine ⟨.agg out',?_,(LRel.arr h2).elim fun a b=>.agg _ _ a b⟩
  have hm:=run_mapM_places P w _ hpl
  have hm2:(fields.mapM fun f=>do pure (f.offset,← sizeOf f.type):Sem (Array (Nat×Nat))).run P w=.ok places.toArray w:=by
   rw [← Array.toArray_toList (xs:=fields)]
   rw [List.mapM_toArray]
   simp only [Sem.run_map,hm,Result.andThen_ok]
  have h1':Instr.fill (fun x=>places.toArray[x]?) zv.cells parts'=some out':=by simpa using h1
  simp only [Instr.build,Sem.run_bind,hzrun,Result.andThen_ok,und_run hu,hm2,h1',Sem.run_pure]
 next n e hu =>
  obtain ⟨z,hz2,h⟩:=bsome h
  obtain ⟨cells,hf,rfl⟩:=msome h
  obtain ⟨out',h1,h2⟩:=fill_ok _ parts hp hi ho hzr hf
  refine ⟨.agg out',?_,(LRel.arr h2).elim fun a b=>.agg _ _ a b⟩
  simp only [Instr.build,Sem.run_bind,hzrun,Result.andThen_ok,und_run hu,sizeD_run hz2,h1,Sem.run_pure]
 next=>cases h
def Env.frz (E:Env) (b:Nat) (l:List Value):Env:={ E with fz:=fun b' o'=>if b'=b∧o'<l.length then l[o']? else E.fz b' o' }
theorem frz_okF {E:Env} {s:St H} {w:World} (h:WRel E s w) (l:List Value) (e:TypeId) (fr:Nat×Nat) :
 WRel (E.frz w.heap.size l) s (w.alloc (.cells l.toArray e fr))∧Keep E w (E.frz w.heap.size l) (w.alloc (.cells l.toArray e fr)):=by
 have hb:(w.alloc (.cells l.toArray e fr)).heap[w.heap.size]?=some (.cells l.toArray e fr):=by
  show (w.heap.push _)[w.heap.size]?=_
  rw [Array.getElem?_push_size]
 have hkeep:∀ k,k<w.heap.size→(w.alloc (.cells l.toArray e fr)).heap[k]?=w.heap[k]?:=fun k hk=>Below.heap_alloc _ _ _ hk
 have hle:E.Le (E.frz w.heap.size l):=⟨Nat.le_refl _,fun _ _=>rfl,fun _ _=>rfl,fun _ _=>rfl,fun _ _=>rfl,fun b o v hv=>by
  simp only [Env.frz]
  rw [if_neg (fun hc=>h.no_fz (Nat.le_of_eq hc.1.symm) hv)]; exact hv,fun _ _ _ _ q=>q,fun _ q=>q⟩
 constructor
 · refine ⟨h.n,fun i hi ho=>Nat.lt_of_lt_of_le (h.blt i hi ho) (by simp),h.lt,h.inj,fun i o hg=>?_,h.tinj,h.tbo,fun b o v hv=>?_,fun b hq=>Nat.lt_of_lt_of_le (h.tbl b hq) (by simp),fun g cs hg=>(h.glb g cs hg).mono hle⟩
   · have hR:=h.obj i o hg
     cases hq:owned o with
     | true=>exact hR.of_block hq hle (h.lt i o hg) (hkeep _ (h.blt i (h.lt i o hg) (hR.own.trans hq)))
     | false =>
      cases o with
      | tok L y =>
       refine TokRel.of_block hR hR.own (fun _=>rfl) (fun _ q=>q) (by simp) fun bb f t q1 q2=>?_
       obtain ⟨_,_,b',f2,t2,r1,r2⟩:=hR
       rw [r1] at q1; injection q1 with q1; injection q1 with e1 q1; injection q1 with e2 q1; injection q1 with e3 q1
       subst e1 e2 e3
       obtain ⟨a1,a2,_⟩:=r2 q2
       have e5:=hkeep b' a1
       exact ⟨shape_of_block e5,fun oo _ _=>⟨World.frozen?_of_block (w:=w) (by exact e5),by simp only [Env.frz]; rw [if_neg (by omega)]⟩⟩
      | _=>cases hq
   · have hv':(if b=w.heap.size∧o<l.length then l[o]? else E.fz b o)=some v:=hv
     split at hv'
     · rename_i hc
       obtain ⟨rfl,hc⟩:=hc
       refine ⟨?_,fun i x hg ho e=>by have:=h.blt i (h.lt i x hg) ho; have e:E.blk i=w.heap.size:=e; omega⟩
       simp only [World.cell?,hb]
       simpa using hv'
     · obtain ⟨h1,h2⟩:=h.frz b o v hv'
       exact ⟨by rw [World.cell?_of_block (w:=w) (by exact hkeep b (h.fz_lt hv'))]; exact h1,h2⟩
 · exact ⟨hle,fun i a b=>absurd b (Nat.not_lt_of_le a),fun _ q=>.inl q,rfl,rfl,rfl,by simp,fun b hb _ _=>hkeep b hb,fun b hb _ _ o=>if_neg (fun q=>by have:=q.1; omega)⟩
theorem frz_ok {E:Env} {s:St H} {w:World} (h:WRel E s w) (l:List Value) (e:TypeId) :
 WRel (E.frz w.heap.size l) s (w.alloc (.cells l.toArray e))∧Keep E w (E.frz w.heap.size l) (w.alloc (.cells l.toArray e)):=frz_okF h l e (0,0)
theorem buildSlice_ok {md:Bool} {E:Env} {s:St H} {w:World} (hW:WRel E s w) {t:TypeId} {len:Nat} {parts parts':List (Nat×Value)} {p:Value×St H} (hp:LRel E (parts.map (·.2)) (parts'.map (·.2))) (hi:parts.map (·.1)=parts'.map (·.1)) (h:buildSliceD P md s t len parts=some p) :
 Goes E w p.2 p.1 ((Instr.buildSlice t len parts'.toArray).run P w):=by
 unfold buildSliceD at h
 split at h
 next e hu =>
  obtain ⟨z,hz,h⟩:=bsome h
  obtain ⟨hc,h⟩:=csome h
  simp only [Bool.and_eq_true] at hc
  have c1:=Nat.le_of_ble_eq_true hc.1
  obtain ⟨zero,hzero,h⟩:=bsome h
  obtain ⟨cells,hf,h⟩:=bsome h
  have hbig:¬ (len*z>2^24):=by omega
  have key:∃ zero':Array Value,((len*z=0∧zero'=#[])∨(¬ len*z=0∧∃ zv,(zeroValue e).run P w=.ok zv w∧zv.cells=zero'))∧LRel E zero.toList zero'.toList:=by
   by_cases h0:len*z=0
   · rw [h0] at hzero
     simp only [beq_yes,cond_true] at hzero
     injection hzero with hzero
     subst hzero
     exact ⟨#[],.inl ⟨h0,rfl⟩,.nil E⟩
   · rw [beq_no h0] at hzero
     simp only [cond_false] at hzero
     obtain ⟨i,zv,hinfo,hzv,hzr⟩:=zero_arr (E:=E) hzero
     exact ⟨zv.cells,.inr ⟨h0,zv,by simp [zeroValue,typeInfo,hinfo,hzv],rfl⟩,hzr⟩
  obtain ⟨zero',hk1,hk2⟩:=key
  have hzs:zero.size=zero'.size:=by have:=hk2.1; simpa using this
  have hbase:LRel E ((Array.range (len*z)).map (zero[· % zero.size]!)).toList ((Array.range (len*z)).map (zero'[· % zero'.size]!)).toList:=by
   refine ⟨by simp,fun j a b=>?_⟩
   simp only [Array.getElem_toList,Array.getElem_map,Array.getElem_range]
   by_cases hq:j % zero.size<zero.size
   · rw [getElem!_pos zero _ hq,getElem!_pos zero' _ (by rw [← hzs]; exact hq)]
     have:=hk2.2 (j % zero.size) (by simpa using hq) (by simpa [← hzs] using hq)
     simp only [Array.getElem_toList] at this
     have e:∀ (i j:Nat) (hi:i<zero'.size) (hj:j<zero'.size),i=j→zero'[i]=zero'[j]:=fun i j hi hj e=>by subst e; rfl
     rw [e (j % zero'.size) (j % zero.size) _ (by rw [← hzs]; exact hq) (by rw [hzs])]
     exact this
   · rw [getElem!_neg zero _ hq,getElem!_neg zero' _ (by rw [← hzs]; exact hq)]
     exact .bool false
  obtain ⟨out',h1,h2⟩:=fill_ok _ parts hp hi hc.2 hbase hf
  obtain ⟨hs,hr⟩:=LRel.arr h2
  have hrun:(Instr.buildSlice t len parts'.toArray).run P w=.ok (.slice (some ⟨w.heap.size,0,none⟩) len len) (w.alloc (.cells out' e)):=by
   simp only [Instr.buildSlice,Sem.run_bind,und_run hu,Result.andThen_ok,sizeD_run hz]
   rw [if_neg hbig]
   rcases hk1 with ⟨h0,rfl⟩ | ⟨h0,zv,hzr,rfl⟩
   · rw [if_pos h0]
     simp only [Sem.run_bind,Sem.run_pure,Result.andThen_ok]
     simp only [h1,newRow,Sem.run_bind,run_newObj,Sem.run_pure,Result.andThen_ok]
     rfl
   · rw [if_neg h0]
     simp only [Sem.run_bind,Sem.run_pure,Result.andThen_ok,hzr]
     simp only [h1,newRow,Sem.run_bind,run_newObj,Sem.run_pure,Result.andThen_ok]
     rfl
  have hsize:cells.toList.length=len*z:=by
   have:=fill_size _ _ hf
   simpa using this
  cases md with
  | true =>
   simp only [cond_true] at h
   injection h with h
   subst h
   obtain ⟨k1,k2⟩:=newRow_ok hW (l:=cells.toList) (cells:=out') e (by simpa using Nat.le_of_eq hs) (fun j a b=>by rw [Array.getElem_toList]; exact hr j _ b)
   refine ⟨_,.slice (some ⟨w.heap.size,0,none⟩) len len,_,hrun,?_,k1,k2⟩
   have hsize2:out'.size=len*z:=by rw [← hs,← hsize]; simp
   have:=newSlice_rel E w.heap.size z len len out'.size 1 (.inr ⟨rfl,rfl⟩) (Nat.le_refl _) (Nat.le_of_eq hsize2.symm)
   rw [← hW.n]; exact this
  | false =>
  simp only [cond_false] at h
  obtain ⟨hc2,h⟩:=csome h
  injection h with h
  subst h
  simp only [Bool.and_eq_true] at hc2
  have c5:0<z:=Nat.le_of_ble_eq_true hc2.2
  have hout:out'.toList.length=len*z:=by rw [← hsize]; simpa using hs.symm
  obtain ⟨k1,k2⟩:=frz_ok hW out'.toList e
  rw [Array.toArray_toList] at k1 k2
  refine ⟨_,.slice (some ⟨w.heap.size,0,none⟩) len len,_,hrun,?_,k1,k2⟩
  · obtain ⟨j1,j2⟩:=chunkL_els hsize
    refine fz_rel (z:=z) (cells:=out'.toList) (chunkL_len _ _ _) j1 (Nat.le_refl _) (fun i j hi hj=>?_) ⟨fun _=>rfl,by omega⟩ (fun id e=>by omega)
    have hlt:i*z+j<len*z:=by
     have:(i+1)*z≤len*z:=Nat.mul_le_mul_right _ hi
     rw [Nat.succ_mul] at this; omega
    have e1:elL (chunkL z len cells.toList) i j=cells.toList[i*z+j]'(by omega):=by rw [j2 i j hi hj]; simp [List.getD,hsize,hlt]
    refine ⟨out'.toList[i*z+j]'(by omega),List.getElem?_eq_getElem _,?_,?_,?_⟩
    · simp only [Env.frz,Nat.zero_add]
      rw [if_pos ⟨trivial,by omega⟩,List.getElem?_eq_getElem (by omega)]
    · rw [e1]
      exact (h2.2 _ _ _).mono k2.le
    · rw [e1]
      exact List.all_eq_true.1 hc2.1 _ (List.getElem_mem _)
 next=>cases h
end Go.FS
