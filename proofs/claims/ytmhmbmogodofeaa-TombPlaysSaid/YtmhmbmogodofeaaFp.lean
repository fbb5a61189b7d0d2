import Derived.Test.YtmhmbmogodofeaaFo
import Derived.DataReads
import Derived.ChangeOld
import Derived.Carry
import Derived.CallsIn
namespace Go.FS
open Go.RowKit
variable {H:HeapI} {P:Program}
def Shaped (P:Program):Nat→TypeId→List Value→Prop
 | 0,_,_=>False
 | f+1,t,cs=>match P.underlying t with
  | some .bool=>∃ b,cs=[.bool b]
  | some (.int k)=>∃ n,cs=[.int k n]∧k.min≤n∧n≤k.max
  | some .string=>∃ b:ByteArray,cs=[.string b]∧b.size≤maxLen
  | some (.slice e)=>∃ els:List (List Value),cs=[fz 0 els]∧els.length≤maxLen∧∀ el∈els,el.length=P.cellsOf e∧Shaped P f e el
  | some (.struct fs)=>cs.length=P.cellsOf t∧∀ x∈fs.toList,Shaped P f x.type ((cs.drop x.offset).take (P.cellsOf x.type))
  | some (.array n e)=>cs.length=P.cellsOf t∧∀ i,i<n→Shaped P f e ((cs.drop (i*P.cellsOf e)).take (P.cellsOf e))
  | _=>False
def tileB (P:Program):Nat→List Field→Nat→Bool
 | o,[],n=>Nat.beq o n
 | o,f::fs,n=>Nat.beq f.offset o&&tileB P (o+P.cellsOf f.type) fs n
def plainT (P:Program):Nat→TypeId→Bool
 | 0,_=>false
 | f+1,t=>match P.underlying t with
  | some .bool | some (.int _) | some .string=>Nat.beq (P.cellsOf t) 1
  | some (.slice e)=>Nat.beq (P.cellsOf t) 1&&Nat.blt 0 (P.cellsOf e)&&plainT P f e
  | some (.struct fs)=>tileB P 0 fs.toList (P.cellsOf t)&&fs.toList.all fun x=>plainT P f x.type
  | some (.array n e)=>Nat.beq (P.cellsOf t) (n*P.cellsOf e)&&Nat.blt 0 (P.cellsOf e)&&plainT P f e
  | _=>false
theorem flatten_get {z:Nat}:∀ {els:List (List Value)},(∀ e∈els,e.length=z)→∀ (j k:Nat) (hj:j<els.length) (_:k<z),els.flatten[j*z+k]?=(els[j])[k]?
 | [],_,j,_,hj,_=>by simp at hj
 | e::els,h,0,k,_,hk=>by
  have:=h e (List.mem_cons_self ..)
  simp [List.getElem?_append_left (show k<e.length by omega)]
 | e::els,h,j+1,k,hj,hk=>by
  have he:=h e (List.mem_cons_self ..)
  have hj':j<els.length:=by simpa using hj
  have ih:=flatten_get (fun x hx=>h x (List.mem_cons_of_mem _ hx)) j k hj' hk
  have e1:(j+1)*z+k=e.length+(j*z+k):=by rw [he,Nat.succ_mul]; omega
  rw [List.flatten_cons,e1,List.getElem?_append_right (Nat.le_add_right _ _),Nat.add_sub_cancel_left,ih]
  simp
theorem flatten_len {z:Nat}:∀ {els:List (List Value)},(∀ e∈els,e.length=z)→els.flatten.length=els.length*z
 | [],_=>by simp
 | e::els,h=>by
  rw [List.flatten_cons,List.length_append,h e (List.mem_cons_self ..),flatten_len (fun x hx=>h x (List.mem_cons_of_mem _ hx)),List.length_cons,Nat.succ_mul]; omega
theorem flatten_part {z:Nat} {els:List (List Value)} (h:∀ e∈els,e.length=z) (j:Nat) (hj:j<els.length):(els.flatten.drop (j*z)).take z=els[j]:=by
 have he:(els[j]).length=z:=h _ (List.getElem_mem hj)
 apply List.ext_getElem?
 intro k
 rw [List.getElem?_take]
 by_cases hk:k<z
 · rw [if_pos hk,List.getElem?_drop,flatten_get h j k hj hk]
 · rw [if_neg hk,List.getElem?_eq_none (by omega)]
theorem all_flat {p:Value→Bool} {M:List (List Value)} (h:∀ i (hi:i<M.length),M[i].all p=true):M.flatten.all p=true:=by
 apply List.all_eq_true.2
 intro x hx
 obtain ⟨l,hl,hx⟩:=List.mem_flatten.1 hx
 obtain ⟨i,hi,rfl⟩:=List.getElem_of_mem hl
 exact List.all_eq_true.1 (h i hi) x hx
theorem fz_open {E:Env} {z cap b o:Nat} {els:List (List Value)} {base:Option Addr} (hl:els.length≤cap) (hb:cap=0∨base=some ⟨b,o,none⟩) (hz:∀ i (hi:i<els.length),els[i].length=z)
 (hc:∀ i (hi:i<els.length),∀ j,j<z→∃ v',E.fz b (o+i*z+j)=some v'∧∃ hj:j<els[i].length,VRel E els[i][j] v') (h1:∀ i (hi:i<els.length),els[i].all oneC=true) :
 VRel E (fz 0 els) (.slice base els.length cap):=by
 have hs:(els.map fun e=>Value.agg e.toArray).toArray.size=els.length:=by simp
 have hel:∀ i j (hi:i<els.length) (hj:j<els[i].length),elC (els.map fun e=>Value.agg e.toArray).toArray i j=els[i][j]:=fun i j hi hj=>by
  unfold elC
  simp only [List.getElem?_map,List.getElem?_eq_getElem hi,Option.map_some,List.getD,List.getElem?_eq_getElem hj,Option.getD_some]
 have:=VRel.fz (E:=E) 0 (els.map fun e=>Value.agg e.toArray).toArray z base cap b o (fun i j=>(E.fz b (o+i*z+j)).getD dc) (fun i hi=>by
   rw [hs] at hi
   exact ⟨els[i].toArray,by simp [hi],by simpa using hz i hi⟩) (by rw [hs]; exact hl) hb
  (fun i j hi hj=>by
   rw [hs] at hi
   obtain ⟨v',q1,_⟩:=hc i hi j hj
   rw [q1]; rfl)
  (fun i j hi hj=>by
   rw [hs] at hi
   obtain ⟨v',q1,hj2,q2⟩:=hc i hi j hj
   rw [q1,hel i j hi hj2]; exact q2)
  (fun i j hi hj=>by
   rw [hs] at hi
   have hj2:j<els[i].length:=by rw [hz i hi]; exact hj
   rw [hel i j hi hj2]
   exact List.all_eq_true.1 (h1 i hi) _ (List.getElem_mem hj2))
  ⟨fun h=>by omega,fun h=>by omega⟩ (fun id h=>by omega)
 rw [hs] at this
 exact this
def Env0 (W:World):Env where
 n:=0
 blk:=fun _=>0
 off:=fun _=>0
 sz:=fun _=>0
 own:=fun _=>false
 fz:=fun b o=>W.cell? ⟨b,o,none⟩
 tk:=fun _ _=>none
 tb:=fun _=>false
theorem env0_rel (W:World) (s:St H) (hn:s.n=0) (hg:∀ i,H.get s.h i=none) (hG:∀ g cs,H.glob g=some cs→GlbRel (Env0 W) g cs):WRel (Env0 W) s W:=by
 refine ⟨hn.symm,fun i h=>absurd h (Nat.not_lt_zero i),fun i o h=>?_,fun i j oi oj h=>?_,fun i o h=>?_,fun i j L z L' z' b f t f' t' h=>?_,fun i o h=>?_,fun b o v h=>⟨h,fun i x h=>?_⟩,fun b h=>(by cases h),hG⟩ <;> (rw [hg] at h; cases h)
variable {Hd:Type} {enc:TypeId×Value→Hd}
def Opened (P:Program) (W:World) (f:Nat) (t:TypeId) (cs:List Value):Prop :=
 ∃ cs',LRel (Env0 W) cs' cs∧Shaped P f t cs'∧cs'.length=P.cellsOf t∧cs'.all oneC=true
theorem open_many {W:World} {g f:Nat} (ih:∀ (t:TypeId) (cs:List Value) (x:DataW Hd×List MemPlace),DataW.trod enc P W 0 (fun _=>true) true f t cs=some x→plainT P g t=true→Opened P W g t cs) :
 ∀ (L:List (TypeId×List Value)),(∀ x∈L,(∃ y,DataW.trod enc P W 0 (fun _=>true) true f x.1 x.2=some y)∧plainT P g x.1=true) →
 ∃ M:List (List Value),M.length=L.length∧∀ i (h:i<L.length) (h':i<M.length),LRel (Env0 W) M[i] L[i].2∧Shaped P g L[i].1 M[i]∧M[i].length=P.cellsOf L[i].1∧M[i].all oneC=true
 | [],_=>⟨[],rfl,fun i h=>absurd h (Nat.not_lt_zero i)⟩
 | x::L,hL=>by
  obtain ⟨⟨y,hy⟩,hp⟩:=hL x (List.mem_cons_self ..)
  obtain ⟨c1,a5,a6,a7,a8⟩:=ih _ _ y hy hp
  obtain ⟨M,b5,b6⟩:=open_many ih L (fun z hz=>hL z (List.mem_cons_of_mem _ hz))
  refine ⟨c1::M,by simp [b5],fun i h h'=>?_⟩
  cases i with
  | zero=>exact ⟨a5,a6,a7,a8⟩
  | succ i=>exact b6 i (by simpa using h) (by simpa using h')
theorem LRel.flatten {E:Env}:∀ {M L:List (List Value)},M.length=L.length→(∀ i (h:i<L.length) (h':i<M.length),LRel E M[i] L[i])→LRel E M.flatten L.flatten
 | [],[],_,_=>.nil E
 | m::M,l::L,hl,h=>by
  rw [List.flatten_cons,List.flatten_cons]
  exact (h 0 (by simp) (by simp)).append (LRel.flatten (by simpa using hl) fun i a b=>h (i+1) (by simpa using a) (by simpa using b))
 | [],_::_,hl,_=>by simp at hl
 | _::_,[],hl,_=>by simp at hl
theorem tile_cells {n:Nat}:∀ {fs:List Field} {o:Nat} {cs:List Value},tileB P o fs n=true→cs.length=n→o≤n∧cs.drop o=(fs.map fun f=>(cs.drop f.offset).take (P.cellsOf f.type)).flatten
 | [],o,cs,h,hc=>by
  have:=Nat.eq_of_beq_eq_true h
  subst this
  exact ⟨Nat.le_refl _,by simp [← hc]⟩
 | f::fs,o,cs,h,hc=>by
  simp only [tileB,Bool.and_eq_true] at h
  have e:=Nat.eq_of_beq_eq_true h.1
  obtain ⟨h1,h2⟩:=tile_cells h.2 hc
  refine ⟨by omega,?_⟩
  rw [List.map_cons,List.flatten_cons,← h2,e]
  conv=>lhs; rw [← List.take_append_drop (P.cellsOf f.type) (cs.drop o)]
  rw [List.drop_drop]
theorem tile_parts {n:Nat}:∀ {fs:List Field} {o:Nat} {M:List (List Value)} {pre:List Value},tileB P o fs n=true→M.length=fs.length→(∀ i (h:i<fs.length) (h':i<M.length),M[i].length=P.cellsOf fs[i].type)→pre.length=o →
 (pre++M.flatten).length=n∧∀ i (h:i<fs.length) (h':i<M.length),((pre++M.flatten).drop fs[i].offset).take (P.cellsOf fs[i].type)=M[i]
 | [],o,M,pre,h,hM,_,hp=>by
  have:=Nat.eq_of_beq_eq_true h
  have:M=[]:=by simpa using hM
  subst this
  exact ⟨by simp; omega,fun i hi=>by simp at hi⟩
 | f::fs,o,[],pre,_,hM,_,_=>by simp at hM
 | f::fs,o,m::M,pre,h,hM,hl,hp=>by
  simp only [tileB,Bool.and_eq_true] at h
  have e:=Nat.eq_of_beq_eq_true h.1
  have hm:m.length=P.cellsOf f.type:=hl 0 (by simp) (by simp)
  obtain ⟨h1,h2⟩:=tile_parts (pre:=pre++m) h.2 (by simpa using hM) (fun i a b=>hl (i+1) (by simpa using a) (by simpa using b)) (by simp [hp,hm])
  have ea:pre++(m::M).flatten=pre++m++M.flatten:=by simp
  rw [ea]
  refine ⟨h1,fun i a b=>?_⟩
  cases i with
  | zero =>
   simp only [List.getElem_cons_zero]
   rw [e,← hp,List.append_assoc,List.drop_left,← hm,List.take_left]
  | succ i=>exact h2 i (by simpa using a) (by simpa using b)
theorem cells_read {W:World} {b:Nat} {a:Addr} {n:Nat} {cs:List Value} (h:W.cells? b a n=some cs):cs.length=n∧∀ k,k<n→W.cell? (a.add k)=cs[k]?:=by
 unfold World.cells? at h
 split at h
 · refine ⟨by rw [mapM_some_length h]; simp,fun k hk=>?_⟩
   exact mapM_some_get h k k (by simp [hk])
 · cases h
theorem cell_spot {W:World} {a:Addr} {v:Value} (h:W.cell? a=some v):a.spot=none∧∃ e,∃ n,W.shape? a.block=some (e,n)∧a.off<n:=by
 unfold World.cell? at h
 split at h
 next c e fz hb =>
  split at h
  · cases h
  · rename_i hs
    refine ⟨by simpa using hs,e,c.size,by simp [World.shape?,hb],?_⟩
    rcases Nat.lt_or_ge a.off c.size with h1 | h1
    · exact h1
    · rw [Array.getElem?_eq_none h1] at h; cases h
 next=>cases h
theorem open_cells {W:World}:∀ (g f:Nat) (t:TypeId) (cs:List Value) (x:DataW Hd×List MemPlace),DataW.trod enc P W 0 (fun _=>true) true f t cs=some x→plainT P g t=true→Opened P W g t cs
 | 0,_,t,cs,x,_,hp=>by cases hp
 | _+1,0,t,cs,x,h,_=>by cases h
 | g+1,f+1,t,cs,x,h,hp=>by
  have ih:=fun t cs x=>@open_cells W g f t cs x
  unfold DataW.trod at h
  unfold plainT at hp
  split at h
  next b hu => 
   rw [hu] at hp
   exact ⟨[.bool b],.cons (.bool b) (.nil _),by unfold Shaped; rw [hu]; exact ⟨b,rfl⟩,(Nat.eq_of_beq_eq_true hp).symm,rfl⟩
  next k k' n hu =>
   rw [hu] at hp
   split at h
   next hc =>
    obtain ⟨rfl,hw⟩:=hc
    simp only [Lit.wf,Bool.and_eq_true,decide_eq_true_eq] at hw
    exact ⟨[.int k' n],.cons (.int k' n) (.nil _),by unfold Shaped; rw [hu]; exact ⟨n,rfl,hw.1,hw.2⟩,(Nat.eq_of_beq_eq_true hp).symm,rfl⟩
   next=>cases h
  next=>rename_i hu; rw [hu] at hp; cases hp
  next b hu =>
   rw [hu] at hp
   split at h
   next hc=>exact ⟨[.string b],.cons (.string b) (.nil _),by unfold Shaped; rw [hu]; exact ⟨b,rfl,hc⟩,(Nat.eq_of_beq_eq_true hp).symm,rfl⟩
   next=>cases h
  next=>rename_i hu; rw [hu] at hp; cases hp
  next=>rename_i hu; rw [hu] at hp; cases hp
  next e hu =>
   rw [hu] at hp
   simp only [Bool.and_eq_true] at hp
   exact ⟨[fz 0 []],.cons (fz_open (z:=0) (els:=[]) (base:=none) (cap:=0) (b:=0) (o:=0) (Nat.le_refl _) (.inl rfl) (fun i hi=>absurd hi (Nat.not_lt_zero i)) (fun i hi=>absurd hi (Nat.not_lt_zero i)) (fun i hi=>absurd hi (Nat.not_lt_zero i))) (.nil _),by unfold Shaped; rw [hu]; exact ⟨[],rfl,Nat.zero_le _,fun el he=>by cases he⟩,(Nat.eq_of_beq_eq_true hp.1.1).symm,rfl⟩
  next e a len cap hu =>
   rw [hu] at hp
   simp only [Bool.and_eq_true] at hp
   obtain ⟨⟨hp1,hp2⟩,hp3⟩:=hp
   have hp1:=Nat.eq_of_beq_eq_true hp1
   have hz:0<P.cellsOf e:=Nat.le_of_ble_eq_true hp2
   simp only at h
   split at h
   next hc =>
    obtain ⟨_,hlc,hcm⟩:=hc
    obtain ⟨elems,he,h⟩:=bsome h
    obtain ⟨rest,hr,_⟩:=Option.map_eq_some_iff.1 h
    simp only [if_true] at hr
    have hel:=mapM_some_length he
    have hrl:=mapM_some_length hr
    simp only [List.length_range] at hel hrl
    -- every element up to the capacity is there
    have hall:∀ j,j<cap→∃ cs y,W.cells? 0 (a.add (j*P.cellsOf e)) (P.cellsOf e)=some cs∧DataW.trod enc P W 0 (fun _=>true) true f e cs=some y:=by
     intro j hj
     by_cases hjl:j<len
     · have:=mapM_some_get he j j (by simp [hjl])
       rw [List.getElem?_eq_getElem (by omega)] at this
       obtain ⟨cs,h1,h2⟩:=bsome this
       exact ⟨cs,_,h1,h2⟩
     · have:=mapM_some_get hr (j-len) (j-len) (List.getElem?_range (by omega))
       rw [List.getElem?_eq_getElem (by omega)] at this
       obtain ⟨cs,h1,h2⟩:=bsome this
       rw [Nat.add_sub_cancel' (by omega)] at h1
       exact ⟨cs,_,h1,h2⟩
    by_cases hc0:cap=0
    · have hl0:len=0:=by omega
      subst hc0 hl0
      exact ⟨[fz 0 []],.cons (fz_open (z:=0) (els:=[]) (base:=some a) (cap:=0) (b:=0) (o:=0) (Nat.le_refl _) (.inl rfl) (fun i hi=>absurd hi (Nat.not_lt_zero i)) (fun i hi=>absurd hi (Nat.not_lt_zero i)) (fun i hi=>absurd hi (Nat.not_lt_zero i))) (.nil _),by unfold Shaped; rw [hu]; exact ⟨[],rfl,Nat.zero_le _,fun el he=>by cases he⟩,hp1.symm,rfl⟩
    · -- the block is one of cells, with room
      obtain ⟨cs0,_,hr0,_⟩:=hall 0 (by omega)
      obtain ⟨hl0,hk0⟩:=cells_read hr0
      have hc00:=hk0 0 hz
      rw [List.getElem?_eq_getElem (by omega)] at hc00
      have hadd0:(a.add (0*P.cellsOf e)).add 0=a:=by simp [Addr.add]
      rw [hadd0] at hc00
      obtain ⟨hspot,el0,sz,hsh,_⟩:=cell_spot hc00
      have ha:∀ k,a.add k=⟨a.block,a.off+k,none⟩:=fun k=>by
       obtain ⟨ab,ao,asp⟩:=a
       simp only at hspot; subst hspot
       unfold Addr.add; split
       · subst_vars; rfl
       · rfl
      -- the elements
      have hch:∃ cells:Nat→List Value,∀ j,j<len→W.cells? 0 (a.add (j*P.cellsOf e)) (P.cellsOf e)=some (cells j)∧∃ y,DataW.trod enc P W 0 (fun _=>true) true f e (cells j)=some y:=by
       refine ⟨fun j=>(W.cells? 0 (a.add (j*P.cellsOf e)) (P.cellsOf e)).getD [],fun j hj=>?_⟩
       obtain ⟨cs,y,h1,h2⟩:=hall j (by omega)
       simp only [h1,Option.getD_some]
       exact ⟨trivial,y,h2⟩
      obtain ⟨cells,hcells⟩:=hch
      obtain ⟨M,b5,b6⟩:=open_many (fun t cs x=>ih t cs x) ((List.range len).map fun j=>(e,cells j)) (fun x hx=>by
       obtain ⟨j,hj,rfl⟩:=List.mem_map.1 hx
       exact ⟨(hcells j (by simpa using hj)).2,hp3⟩)
      simp only [List.length_map,List.length_range] at b5 b6
      refine ⟨[fz 0 M],.cons ?_ (.nil _),?_,hp1.symm,rfl⟩
      · have ha0:a=⟨a.block,a.off,none⟩:=by
         obtain ⟨ab,ao,asp⟩:=a
         simp only at hspot; subst hspot; rfl
        have hr:=fz_open (E:=Env0 W) (z:=P.cellsOf e) (els:=M) (base:=some a) (cap:=cap) (b:=a.block) (o:=a.off) (by omega) (.inr (by rw [← ha0])) (fun i hi=>?_) (fun i hi j hj=>?_) (fun i hi=>?_)
        · rw [b5] at hr; exact hr
        · have:=(b6 i (by omega) hi).2.2.1
          simpa using this
        · obtain ⟨c1,_⟩:=hcells i (by omega)
          obtain ⟨hl1,hk1⟩:=cells_read c1
          have hcell:=hk1 j hj
          have e1:(a.add (i*P.cellsOf e)).add j=⟨a.block,a.off+i*P.cellsOf e+j,none⟩:=by
           rw [ha (i*P.cellsOf e)]
           unfold Addr.add; split
           · rename_i h0; rw [h0]; rfl
           · rfl
          rw [e1] at hcell
          have hjl:j<(cells i).length:=by omega
          have hjm:j<M[i].length:=by
           have:=(b6 i (by omega) hi).2.2.1
           simp at this; omega
          have hrel:=(b6 i (by omega) hi).1.2 j hjm (by simpa using hjl)
          simp only [List.getElem_map,List.getElem_range] at hrel
          exact ⟨(cells i)[j],by rw [List.getElem?_eq_getElem hjl] at hcell; exact hcell,hjm,hrel⟩
        · exact (b6 i (by omega) hi).2.2.2
      · unfold Shaped; rw [hu]
        refine ⟨M,rfl,by omega,fun el hm=>?_⟩
        obtain ⟨i,hi,rfl⟩:=List.getElem_of_mem hm
        have:=b6 i (by omega) hi
        simp only [List.getElem_map] at this
        exact ⟨this.2.2.1,this.2.1⟩
   next=>cases h
  next cs _ _ fs hu =>
   rw [hu] at hp
   simp only [Bool.and_eq_true] at hp
   split at h
   next hc =>
    obtain ⟨xs,hxs,_⟩:=Option.map_eq_some_iff.1 h
    obtain ⟨M,b5,b6⟩:=open_many (fun t cs x=>ih t cs x) (fs.toList.map fun g=>(g.type,(cs.drop g.offset).take (P.cellsOf g.type))) (fun x hx=>by
     obtain ⟨g,hg,rfl⟩:=List.mem_map.1 hx
     obtain ⟨i,hi,rfl⟩:=List.getElem_of_mem hg
     have:=mapM_some_get hxs i _ (List.getElem?_eq_getElem hi)
     rw [List.getElem?_eq_getElem (by rw [mapM_some_length hxs]; exact hi)] at this
     exact ⟨⟨_,this⟩,List.all_eq_true.1 hp.2 _ (List.getElem_mem hi)⟩)
    simp only [List.length_map] at b5 b6
    obtain ⟨t1,t2⟩:=tile_cells hp.1 hc
    rw [List.drop_zero] at t2
    obtain ⟨p1,p2⟩:=tile_parts (pre:=[]) hp.1 b5 (fun i hi hi'=>by simpa using (b6 i hi hi').2.2.1) rfl
    simp only [List.nil_append] at p1 p2
    refine ⟨M.flatten,?_,?_,p1,all_flat fun i hi=>(b6 i (by omega) hi).2.2.2⟩
    · rw [t2]
      refine LRel.flatten (by simpa using b5) fun i hi hi'=>?_
      have:=(b6 i (by simpa using hi) hi').1
      simpa using this
    · unfold Shaped; rw [hu]
      refine ⟨p1,fun x hx=>?_⟩
      obtain ⟨i,hi,rfl⟩:=List.getElem_of_mem hx
      rw [p2 i hi (by omega)]
      have:=(b6 i (by simpa using hi) (by omega)).2.1
      simpa using this
   next=>cases h
  next cs _ _ n e hu =>
   rw [hu] at hp
   simp only [Bool.and_eq_true] at hp
   obtain ⟨⟨hp1,hp2⟩,hp3⟩:=hp
   have hp1:=Nat.eq_of_beq_eq_true hp1
   split at h
   next hc =>
    obtain ⟨xs,hxs,_⟩:=Option.map_eq_some_iff.1 h
    obtain ⟨M,b5,b6⟩:=open_many (fun t cs x=>ih t cs x) ((List.range n).map fun i=>(e,(cs.drop (i*P.cellsOf e)).take (P.cellsOf e))) (fun x hx=>by
     obtain ⟨i,hi,rfl⟩:=List.mem_map.1 hx
     have hi:i<n:=by simpa using hi
     have:=mapM_some_get hxs i i (by simp [hi])
     rw [List.getElem?_eq_getElem (by rw [mapM_some_length hxs]; simpa using hi)] at this
     exact ⟨⟨_,this⟩,hp3⟩)
    simp only [List.length_map,List.length_range] at b5 b6
    have hMz:∀ m∈M,m.length=P.cellsOf e:=fun m hm=>by
     obtain ⟨i,hi,rfl⟩:=List.getElem_of_mem hm
     have:=(b6 i (by omega) hi).2.2.1
     simpa using this
    have hcs:cs=((List.range n).map fun i=>(cs.drop (i*P.cellsOf e)).take (P.cellsOf e)).flatten:=by
     have hlz:∀ x∈((List.range n).map fun i=>(cs.drop (i*P.cellsOf e)).take (P.cellsOf e)),x.length=P.cellsOf e:=fun x hx=>by
       obtain ⟨i,hi,rfl⟩:=List.mem_map.1 hx
       have hi:i<n:=by simpa using hi
       have:i*P.cellsOf e+P.cellsOf e≤n*P.cellsOf e:=by rw [← Nat.succ_mul]; exact Nat.mul_le_mul_right _ hi
       simp; omega
     have hz:0<P.cellsOf e:=Nat.le_of_ble_eq_true hp2
     apply List.ext_getElem?
     intro i
     by_cases hi:i<n*P.cellsOf e
     · have hz2:i / P.cellsOf e<n:=Nat.div_lt_of_lt_mul (by rw [Nat.mul_comm]; exact hi)
       have hk2:i % P.cellsOf e<P.cellsOf e:=Nat.mod_lt _ hz
       have hdm:i / P.cellsOf e*P.cellsOf e+i % P.cellsOf e=i:=by rw [Nat.mul_comm]; exact Nat.div_add_mod _ _
       have:=flatten_get hlz (i / P.cellsOf e) (i % P.cellsOf e) (by simpa using hz2) hk2
       rw [hdm] at this
       rw [this]
       simp only [List.getElem_map,List.getElem_range]
       rw [List.getElem?_take,if_pos hk2,List.getElem?_drop,hdm]
     · rw [List.getElem?_eq_none (by omega),List.getElem?_eq_none (by rw [flatten_len hlz]; simp; omega)]
    refine ⟨M.flatten,?_,?_,by rw [flatten_len hMz,b5,hp1],all_flat fun i hi=>(b6 i (by omega) hi).2.2.2⟩
    · rw [hcs]
      refine LRel.flatten (by simpa using b5) fun i hi hi'=>?_
      have:=(b6 i (by simpa using hi) hi').1
      simpa using this
    · unfold Shaped; rw [hu]
      refine ⟨by rw [flatten_len hMz,b5,hp1],fun i hi=>?_⟩
      rw [flatten_part hMz i (by omega)]
      have:=(b6 i (by simpa using hi) (by omega)).2.1
      simpa using this
   next=>cases h
  all_goals first | (cases h; done) | (rename_i hu; rw [hu] at hp; cases hp)
end Go.FS
namespace Go.FS
open Go.RowKit
variable {H:HeapI} {P:Program}
def ArgOk (P:Program) (F:Nat) (t:TypeId) (v:Value):Prop :=
 Shaped P F t v.cells.toList∧match P.underlying t with
  | some (.struct _) | some (.array _ _)=>∃ cs,v=.agg cs
  | _=>∀ cs,v≠.agg cs
def ArgsOk (P:Program) (F:Nat):List TypeId→List Value→Prop
 | [],[]=>True
 | t::ts,v::vs=>ArgOk P F t v∧ArgsOk P F ts vs
 | _,_=>False
variable {Hd:Type} {enc:TypeId×Value→Hd}
theorem LRel.one {E:Env} {v':Value} {l:List Value} (h:LRel E l [v']):∃ v,l=[v]∧VRel E v v':=by
 obtain ⟨hl,h⟩:=h
 match l,hl with
 | [v],_=>exact ⟨v,rfl,h 0 (by simp) (by simp)⟩
theorem fz_noagg (m:Nat) (els:List (List Value)) (cs:Array Value):fz m els≠.agg cs:=fun h=>by cases h
theorem open_arg {W:World} {F:Nat} {t:TypeId} {v:Value} {d:DataW Hd} {ps:List MemPlace} {base:Nat} (hT:DataW.Trod enc P W 0 (fun _=>true) true t v d ps) (hok:Value.okWide P W .any base t v) (hp:plainT P F t=true) :
 ∃ v',VRel (Env0 W) v' v∧ArgOk P F t v':=by
 obtain ⟨f,hf⟩:=hT
 obtain ⟨cs',a5,a6,_,a7⟩:=open_cells F f t _ _ hf hp
 unfold Value.okWide at hok
 have hsh:=a6
 unfold ArgOk
 cases F with
 | zero=>cases hp
 | succ F =>
  unfold plainT at hp
  have single:(∀ cs,v≠.agg cs)→(∀ v':Value,cs'=[v']→∀ cs,v'≠.agg cs)→(match P.underlying t with | some (.struct _) | some (.array _ _)=>False | _=>True) →
   ∃ v',VRel (Env0 W) v' v∧Shaped P (F+1) t v'.cells.toList∧match P.underlying t with | some (.struct _) | some (.array _ _)=>∃ cs,v'=.agg cs | _=>∀ cs,v'≠.agg cs:=by
   intro hv hv' hm
   have hc:v.cells.toList=[v]:=by cases v <;> first | rfl | exact absurd rfl (hv _)
   rw [hc] at a5
   obtain ⟨v',rfl,hr⟩:=a5.one
   have hc':v'.cells.toList=[v']:=by cases v' <;> first | rfl | exact absurd rfl (hv' _ rfl _)
   refine ⟨v',hr,by rw [hc']; exact a6,?_⟩
   split at hm
   · exact hm.elim
   · exact hm.elim
   · exact hv' v' rfl
  have multi:(∃ cs,v=.agg cs)→(match P.underlying t with | some (.struct _) | some (.array _ _)=>True | _=>False) →
    ∃ v',VRel (Env0 W) v' v∧Shaped P (F+1) t v'.cells.toList∧match P.underlying t with | some (.struct _) | some (.array _ _)=>∃ cs,v'=.agg cs | _=>∀ cs,v'≠.agg cs:=by
   rintro ⟨cs,rfl⟩ hm
   refine ⟨.agg cs'.toArray,?_,by simpa [Value.cells] using a6,?_⟩
   · have:=VRel.aggL a5
     simpa [Value.cells] using this
   · split at hm
     · exact ⟨_,rfl⟩
     · exact ⟨_,rfl⟩
     · exact hm.elim
  split at hp
  next hu =>
   unfold Shaped at hsh
   rw [hu] at hsh hok single ⊢
   refine single (fun cs e=>?_) (fun v' e cs e2=>?_) trivial
   · subst e; simp only [Cell.okWide,hu,Cell.ok] at hok
   · obtain ⟨b,hb⟩:=hsh; rw [e] at hb; injection hb with hb; subst hb; cases e2
  next k hu =>
   unfold Shaped at hsh
   rw [hu] at hsh hok single ⊢
   refine single (fun cs e=>?_) (fun v' e cs e2=>?_) trivial
   · subst e; simp only [Cell.okWide,hu,Cell.ok] at hok
   · obtain ⟨n,hb,_⟩:=hsh; rw [e] at hb; injection hb with hb; subst hb; cases e2
  next hu =>
   unfold Shaped at hsh
   rw [hu] at hsh hok single ⊢
   refine single (fun cs e=>?_) (fun v' e cs e2=>?_) trivial
   · subst e; simp only [Cell.okWide,hu,Cell.ok] at hok
   · obtain ⟨n,hb,_⟩:=hsh; rw [e] at hb; injection hb with hb; subst hb; cases e2
  next e hu =>
   unfold Shaped at hsh
   rw [hu] at hsh hok single ⊢
   refine single (fun cs e=>?_) (fun v' e' cs e2=>?_) trivial
   · subst e; simp only [Cell.okWide,hu,Cell.ok] at hok
   · obtain ⟨els,hb,_⟩:=hsh; rw [e'] at hb; injection hb with hb; subst hb; exact fz_noagg _ _ _ e2
  next fs hu =>
   rw [hu] at hok multi ⊢
   obtain ⟨cs,hc,_⟩:=hok
   exact multi ⟨cs,hc⟩ trivial
  next n e hu =>
   rw [hu] at hok multi ⊢
   obtain ⟨cs,hc,_⟩:=hok
   exact multi ⟨cs,hc⟩ trivial
  next=>cases hp
theorem open_args {W:World} {F:Nat} {base:Nat}:∀ {ts:List TypeId} {vs:List Value} {ds:List (DataW Hd)} {ps:List MemPlace},DataW.TrodAll enc P W 0 (fun _=>true) true ts vs ds ps→(∀ (j:Nat) t v,ts[j]?=some t→vs[j]?=some v→Value.okWide P W .any base t v)→ts.all (plainT P F)=true →
 ∃ vs',LRel (Env0 W) vs' vs∧ArgsOk P F ts vs'
 | [],[],[],_,_,_,_=>⟨[],.nil _,trivial⟩
 | t::ts,v::vs,d::ds,_,⟨p,q,h1,h2,_⟩,hok,hp=>by
  simp only [List.all_cons,Bool.and_eq_true] at hp
  obtain ⟨vs2,b5,b6⟩:=open_args h2 (fun j t v a b=>hok (j+1) t v (by simpa using a) (by simpa using b)) hp.2
  obtain ⟨v1,a5,a6⟩:=open_arg h1 (hok 0 t v rfl rfl) hp.1
  exact ⟨v1::vs2,.cons a5 b5,a6,b6⟩
def allTrue (x:Option (List (Value×St H))):Bool:=match x with
 | none=>false
 | some L=>L.all fun p=>match p.1 with
  | .bool b=>b
  | _=>false
theorem allTrue_ok {x:Option (List (Value×St H))} (h:allTrue x=true):∃ L,x=some L∧∀ p∈L,p.1=.bool true:=by
 unfold allTrue at h
 split at h
 · cases h
 · rename_i L
   refine ⟨L,rfl,fun p hp=>?_⟩
   have:=List.all_eq_true.1 h p hp
   split at this
   · rename_i b hb; rw [hb,this]
   · cases this
theorem law_calls {A:Ann H} (s0:St H) (hs0:s0.n=0) (hs1:∀ i,H.get s0.h i=none) (hI:IOk P A.i) (hN:Named P) (hmix:P.follows .mixedOrders=true) {f:FuncId} {fn:Func} (hf:P.funcs[f]?=some fn) (hIf:A.i f=none) {ts:List TypeId} (F:Nat) (hpl:ts.all (plainT P F)=true)
 (hD:∀ (args:List Value),ArgsOk P F ts args→∃ n,allTrue (callD P A (n+1) (.fn f) args s0)=true)
 {W:World} (hG:∀ g cs,H.glob g=some cs→GlbRel (Env0 W) g cs) {args:Array Value} {ds:List (DataW Hd)} {ps:List MemPlace} {base:Nat} (hA:DataW.TrodAll enc P W 0 (fun _=>true) true ts args.toList ds ps)
 (hok:∀ (j:Nat) t v,ts[j]?=some t→args[j]?=some v→Value.okWide P W .any base t v) :
 Calls P f args W fun e W'=>e=.returned (.bool true)∧Below W.heap.size W W':=by
 have hW:=env0_rel W s0 hs0 hs1 hG
 obtain ⟨vs1,a5,a6⟩:=open_args (F:=F) hA (fun j t v h1 h2=>hok j t v h1 (by simpa using h2)) hpl
 obtain ⟨n,h⟩:=hD vs1 a6
 obtain ⟨L,h,hall⟩:=allTrue_ok h
 have h : (match A.i f with
       | some i=>(i vs1 s0).map fun p=>[p]
       | none=>match P.funcs[f]? with
        | none=>none
        | some fn=>match A.cut f with
         | none=>bodyD P (A.row f) (callD P A n) A.N f fn vs1 s0
         | some fl=>(bodyD P (A.row f) (callD P A n) A.N f fn vs1 s0).bind fun L=>cutJ fl s0 L)=some L:=h
 rw [hIf,hf] at h
 have:=fn_ok hN hmix (call_sound hI hN hmix n) hf h hW a5
 rcases this with ⟨_,hc⟩ | ⟨v,w',h1,_⟩
 · refine (callsIn_wide.1 hc).mono fun e W' hq=>?_
   cases e with
   | returned v =>
    obtain ⟨p,hp,E2,h1,h2,h3⟩:=hq
    rw [hall p hp] at h1
    rw [h1.bool_inv]
    exact ⟨rfl,h3.below (fun _ _=>rfl) (fun _=>rfl)⟩
   | panicked c=>exact hq.elim
   | outgrown=>exact hq.elim
 · exfalso
   have hb:fn.body.isSome=true:=by
    cases hb:fn.body with
    | some c=>rfl
    | none =>
     exfalso
     cases hc:A.cut f with
     | none=>rw [hc] at h; have h:bodyD P (A.row f) (callD P A n) A.N f fn vs1 s0=some L:=h; unfold bodyD at h; rw [hb] at h; cases h
     | some fl =>
        rw [hc] at h
        obtain ⟨p,hp,_⟩:=bsome h
        unfold bodyD at hp; rw [hb] at hp; cases hp
   have hb2:fn.body.isNone=false:=by cases hx:fn.body <;> simp_all
   simp only [callFunc,Sem.run_bind,run_program,Result.andThen_ok,hf,hN f fn hf hb,hb2,Bool.false_eq_true,if_false] at h1
   cases h1
theorem back_args {W W':World} (hl:laidOutB P=true) (hb:Below W.heap.size W W'):∀ {ts:List TypeId} {vs:List Value} {ds:List (DataW Hd)} {ps:List MemPlace},DataW.TrodAll enc P W 0 (fun _=>true) true ts vs ds ps→ts.all (fun t=>P.readableRec t&&decide (t<P.types.size))=true →
 DataW.TrodAll enc P W' 0 (fun b=>decide (b<W.heap.size)) true ts vs ds ps
 | [],[],[],_,h,_=>h
 | t::ts,v::vs,d::ds,_,⟨p,q,h1,h2,e⟩,ht=>by
  simp only [List.all_cons,Bool.and_eq_true,decide_eq_true_eq] at ht
  refine ⟨p,q,Below.trod hl ht.1.1 ht.1.2 h1 hb (fun x hx=>?_),back_args hl hb h2 ht.2,e⟩
  obtain ⟨m,hm⟩:=h1
  exact DataW.trod_lt m _ _ _ hm x hx
theorem trod_len {W:World} {B:Nat} {own:Nat→Bool} {b:Bool}:∀ {ts:List TypeId} {vs:List Value} {ds:List (DataW Hd)} {ps:List MemPlace},DataW.TrodAll enc P W B own b ts vs ds ps→ds.length=ts.length
 | [],[],[],_,_=>rfl
 | _::_,_::_,_::_,_,⟨_,_,_,h2,_⟩=>by simp [trod_len h2]
def yes:List Value→St H→Option (Value×St H):=fun a s=>match a with
 | []=>some (.bool true,s)
 | _=>none
theorem yes_ok {H2:HeapI} {A:Ann H2} (hgl:H2.glob=H.glob) (hgf:∀ g cs,H.glob g=some cs→cs.toList.all flat1=true) (s0:St H2) (hs0:s0.n=0) (hs1:∀ i,H2.get s0.h i=none) (hI:IOk P A.i) (hN:Named P) (hmix:P.follows .mixedOrders=true) {f:FuncId} {fn:Func} (hf:P.funcs[f]?=some fn) (hb:fn.body.isSome=true) {n:Nat} (h:allTrue (callD P A n (.fn f) [] s0)=true) :
 ∀ args (s:St H) v s',yes args s=some (v,s')→∀ E w (args':Array Value),WRel E s w→LRel E args args'.toList→FnOk P f args' w (Ans E w v s'):=by
 intro args s v s' hy E w args' hW hA
 unfold yes at hy
 split at hy
 next =>
  injection hy with hy
  injection hy with h1 h2
  subst h1 h2
  obtain ⟨L,hp,hall⟩:=allTrue_ok h
  have ha:args'=#[]:=by have:=hA.unnil; simpa using this
  subst ha
  have hW0:=env0_rel w s0 hs0 hs1 (fun g cs hg=>by
   rw [hgl] at hg
   intro j hj
   obtain ⟨v',q1,q2⟩:=hW.glb g cs hg j hj
   have hfl:=List.all_eq_true.1 (hgf g cs hg) cs[j] (by simp)
   have e:=flat1_rel hfl q2
   subst e
   exact ⟨_,(hW.frz _ _ _ q1).1,flat1_refl hfl⟩)
  have hc:FnOk P f #[] w (AnsL (Env0 w) w L):=call_sound hI hN hmix n (.fn f) [] s0 _ hp (Env0 w) w #[] hW0 (.nil _)
  have conv:∀ v' w',AnsL (Env0 w) w L v' w'→Ans E w (.bool true) s v' w':=by
   rintro v' w' ⟨p,hpL,E2,h1,h2,h3⟩
   rw [hall p hpL] at h1
   have hbel:=h3.below (fun _ _=>rfl) (fun _=>rfl)
   have hblk:∀ b,b<w.heap.size→w'.heap[b]?=w.heap[b]?:=fun b hb=>h3.block b hb (fun j hj=>absurd hj (Nat.not_lt_zero j)) rfl
   refine ⟨E,?_,?_,?_⟩
   · rw [h1.bool_inv]; exact .bool true
   · exact hW.off h3.size fun b hb _=>hblk b hb
   · exact ⟨.refl E,fun i a b=>absurd b (Nat.not_lt_of_le a),fun _ q=>.inl q,h3.os,h3.tape,h3.output,h3.size,fun b hb _ _=>hblk b hb,fun _ _ _ _ _=>rfl⟩
  rcases hc with ⟨h1,h2⟩ | ⟨v',w',h1,h2⟩
  · refine .inl ⟨h1,h2.mono fun e W' hq=>?_⟩
    cases e with
    | returned v'=>exact conv _ _ hq
    | panicked c=>exact hq.elim
    | outgrown=>exact hq.elim
  · exact .inr ⟨v',w',h1,conv _ _ h2⟩
 next=>cases hy
def noI:Intr H:=fun _=>none
theorem noI_ok:IOk P (noI:Intr H):=fun f i h=>by cases h
theorem args_nil {F:Nat} {args:List Value} (h:ArgsOk P F [] args):args=[]:=by
 cases args with
 | nil=>rfl
 | cons=>exact h.elim
theorem args_cons {F:Nat} {t:TypeId} {ts:List TypeId} {args:List Value} (h:ArgsOk P F (t::ts) args):∃ a l,args=a::l∧ArgOk P F t a∧ArgsOk P F ts l:=by
 cases args with
 | nil=>exact h.elim
 | cons a l=>exact ⟨a,l,rfl,h.1,h.2⟩
theorem cells_one {v x:Value} (h:∀ cs,v≠.agg cs) (hc:v.cells.toList=[x]):v=x:=by
 cases v with
 | agg cs=>exact absurd rfl (h cs)
 | _=>injection hc
theorem arg_int {F:Nat} {t:TypeId} {v:Value} {k:IntKind} (hu:P.underlying t=some (.int k)) (h:ArgOk P (F+1) t v):∃ n,v=.int k n∧k.min≤n∧n≤k.max:=by
 obtain ⟨h1,h2⟩:=h
 unfold Shaped at h1
 rw [hu] at h1 h2
 obtain ⟨n,hn,hb⟩:=h1
 exact ⟨n,cells_one h2 hn,hb⟩
theorem arg_slice {F:Nat} {t:TypeId} {v:Value} {e:TypeId} (hu:P.underlying t=some (.slice e)) (h:ArgOk P (F+1) t v):∃ els:List (List Value),v=fz 0 els∧els.length≤maxLen∧∀ el∈els,el.length=P.cellsOf e∧Shaped P F e el:=by
 obtain ⟨h1,h2⟩:=h
 unfold Shaped at h1
 rw [hu] at h1 h2
 obtain ⟨n,hn,hb⟩:=h1
 exact ⟨n,cells_one h2 hn,hb⟩
end Go.FS
