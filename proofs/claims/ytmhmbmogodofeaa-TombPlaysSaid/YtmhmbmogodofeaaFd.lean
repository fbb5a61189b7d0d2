import Derived.Test.YtmhmbmogodofeaaFc
namespace Go.FS
open Go.RowKit
variable {P:Program} {H:HeapI}
def Goes (E:Env) (w:World) (s':St H) (v:Value) (r:Result Value):Prop :=
 ∃ E' v' w',r=.ok v' w'∧VRel E' v v'∧WRel E' s' w'∧Keep E w E' w'
theorem runP_run {α:Type} (s:Sem α) (a:α) (w:World) (h:runP P s=some a):s.run P w=.ok a w:=by
 induction s with
 | pure b=>simp only [runP] at h; injection h with h; subst h; rfl
 | program k ih=>exact ih P h
 | mark m k ih=>simp only [runP] at h; simp only [Sem.run]; exact ih h
 | _=>simp [runP] at h
theorem rowD_eq {s:St H} {id:Nat} {r:List Value} (h:rowD s id=some r):H.get s.h id=some (.row r):=by
 unfold rowD at h
 split at h
 · rename_i cs hg; injection h with h; subst h; exact hg
 · cases h
theorem tokD_eq {s:St H} {id:Nat} {r:Nat×Nat} (h:tokD s id=some r):H.get s.h id=some (.tok r.1 r.2):=by
 unfold tokD at h
 split at h
 · rename_i n z hg; injection h with h; subst h; exact hg
 · cases h
theorem mapD_eq {s:St H} {id:Nat} {r:List (Value×Value×Nat)×Nat} (h:mapD s id=some r):H.get s.h id=some (.map r.1 r.2):=by
 unfold mapD at h
 split at h
 · rename_i es c hg; injection h with h; subst h; exact hg
 · cases h
theorem ptrD_eq {v:Value} {p:Nat×Nat} (h:ptrD v=some p):v=.pointer (some ⟨p.1,p.2,none⟩):=by
 unfold ptrD at h
 split at h
 · injection h with h; subst h; rfl
 · cases h
theorem VRel.ptr_inv {E:Env} {id o:Nat} {v':Value} (h:VRel E (.pointer (some ⟨id,o,none⟩)) v'):v'=.pointer (some ⟨E.blk id,E.off id+o,none⟩)∧id<E.n:=by
 cases h with
 | ptr _ _ h=>exact ⟨rfl,h⟩
theorem bsome {α β:Type} {o:Option α} {f:α→Option β} {b:β} (h:o.bind f=some b):∃ a,o=some a∧f a=some b:=by
 cases o with
 | none=>cases h
 | some a=>exact ⟨a,rfl,h⟩
theorem csome {α:Type} {c:Bool} {x:Option α} {b:α} (h:cond c x none=some b):c=true∧x=some b:=by
 cases c with
 | false=>cases h
 | true=>exact ⟨rfl,h⟩
theorem msome {α β:Type} {o:Option α} {f:α→β} {b:β} (h:o.map f=some b):∃ a,o=some a∧f a=b:=by
 cases o with
 | none=>cases h
 | some a=>exact ⟨a,rfl,by injection h⟩
theorem exists_list {E:Env}:∀ (l:List Value) (p:Nat→Value→Prop),(∀ i (h:i<l.length),∃ v',p i v'∧VRel E l[i] v')→∃ l',LRel E l l'∧∀ i v',l'[i]?=some v'→p i v'
 | [],p,_=>⟨[],.nil E,fun i v' h=>by simp at h⟩
 | v::l,p,h=>by
  obtain ⟨v',hp,hv⟩:=h 0 (Nat.succ_pos _)
  obtain ⟨l',hl,hp'⟩:=exists_list l (fun i=>p (i+1)) (fun i hi=>h (i+1) (Nat.succ_lt_succ hi))
  refine ⟨v'::l',.cons hv hl,fun i x hx=>?_⟩
  cases i with
  | zero=>simp at hx; subst hx; exact hp
  | succ i=>exact hp' i x (by simpa using hx)
theorem takeD_eq {cs l:List Value} {o n:Nat} (h:takeD cs o n=some l):l=(cs.drop o).take n∧l.length=n:=by
 unfold takeD at h
 obtain ⟨h1,h2⟩:=csome h
 injection h2 with h2
 subst h2
 exact ⟨rfl,Nat.eq_of_beq_eq_true h1⟩
theorem takeD_len {cs l:List Value} {o n:Nat} (h:takeD cs o n=some l) (hn:n≠0):o+n≤cs.length:=by
 obtain ⟨h1,h2⟩:=takeD_eq h
 rw [h1] at h2
 simp at h2
 omega
theorem VRel.fz_inv {E:Env} {m:Nat} {arr:Array Value} {v':Value} (h:VRel E (.iface m (.tuple arr)) v') (hi:isFz arr=true) :
 ∃ (z:Nat) (base:Option Addr) (cap b o:Nat) (f:Nat→Nat→Value),v'=.slice base arr.size cap∧(∀ i,i<arr.size→∃ c,arr.toList[i]?=some (.agg c)∧c.size=z)∧arr.size≤cap∧(cap=0∨base=some ⟨b,o,none⟩) ∧
  (∀ i j,i<arr.size→j<z→E.fz b (o+i*z+j)=some (f i j))∧(∀ i j,i<arr.size→j<z→VRel E (elC arr i j) (f i j))∧(∀ i j,i<arr.size→j<z→oneC (elC arr i j)=true) ∧
  ((m=1→cap=arr.size)∧(m=2→base=none∧cap=0))∧(∀ id,m=id+3→id<E.n∧∃ r,E.tk id arr.size=some r∧(cap=arr.size∨(0<z∧r=(b,o+arr.size*z,o+cap*z,z)))):=by
 cases h with
 | fz _ _ z base cap b o f hz hl hb hf hr h1 hx ht=>exact ⟨z,base,cap,b,o,f,rfl,hz,hl,hb,hf,hr,h1,hx,ht⟩
 | fp cs o b p f hf hr=>cases hi
 | gp g o=>cases hi
 | iface t v v' h hr=>cases h
theorem VRel.gp_inv {E:Env} {o:Nat} {arr c:Array Value} {k:IntKind} {g:Int} {v':Value} (h:VRel E (.iface o (.tuple arr)) v') (hc:arr.toList=[.tuple c,.int k g]):v'=.pointer (some ⟨g.toNat,o,none⟩):=by
 cases h with
 | fz _ _ z base cap b o f hz hl hb hf hr h1 hx ht =>
  obtain ⟨c,h1,_⟩:=hz 0 (by rw [← Array.length_toList,hc]; simp)
  rw [hc] at h1; cases h1
 | fp cs' o b p f hf hr=>simp at hc
 | gp g2 o =>
  have e:((g2:Nat):Int)=g:=by simp at hc; exact hc.2.2
  subst e; rfl
 | iface t v v' h hr=>cases h
theorem VRel.fp_inv {E:Env} {o:Nat} {arr cs:Array Value} {v':Value} (h:VRel E (.iface o (.tuple arr)) v') (hc:arr.toList=[.tuple cs]) :
 ∃ (b p:Nat) (f:Nat→Value),v'=.pointer (some ⟨b,p+o,none⟩)∧(∀ j,j<cs.size→E.fz b (p+j)=some (f j))∧∀ j (h:j<cs.size),VRel E cs[j] (f j):=by
 cases h with
 | fz _ _ z base cap b o f hz hl hb hf hr h1 hx ht =>
  obtain ⟨c,h1,_⟩:=hz 0 (by rw [← Array.length_toList,hc]; exact Nat.one_pos)
  rw [hc] at h1; cases h1
 | fp cs' o b p f hf hr =>
  have:cs'=cs:=by simpa using hc
  subst this
  exact ⟨b,p,f,rfl,hf,hr⟩
 | gp g o=>simp at hc
 | iface t v v' h hr=>cases h
theorem fzOk_is {z:Nat} {arr:Array Value} (h:fzOk z arr=true):isFz arr=true:=by
 unfold fzOk at h; unfold isFz
 split at h
 · rfl
 · rfl
 · cases h
theorem fzOk_z {z z':Nat} {arr:Array Value} (h:fzOk z arr=true) (hz:∀ i,i<arr.size→∃ c,arr.toList[i]?=some (.agg c)∧c.size=z'):arr.size=0∨z'=z:=by
 unfold fzOk at h
 split at h
 · rename_i e
   left
   rw [← Array.length_toList,e]; rfl
 · rename_i c l e
   right
   obtain ⟨c',h1,h2⟩:=hz 0 (by rw [← Array.length_toList,e]; simp)
   rw [e] at h1
   simp only [List.getElem?_cons_zero,Option.some.injEq,Value.agg.injEq] at h1
   rw [← h2,← h1]; exact Nat.eq_of_beq_eq_true h
 · cases h
theorem elD_eq {z i:Nat} {arr c:Array Value} (h:elD z arr i=some c):arr.toList[i]?=some (.agg c)∧c.size=z:=by
 unfold elD at h
 split at h
 · rename_i c' e
   obtain ⟨h1,h2⟩:=csome h
   injection h2 with h2
   subst h2
   exact ⟨e,Nat.eq_of_beq_eq_true h1⟩
 · cases h
def At (E:Env) (w:World) (b p:Nat) (cs:List Value):Prop:=∀ j (h:j<cs.length),∃ v',w.cell? ⟨b,p+j,none⟩=some v'∧VRel E cs[j] v'
theorem RowRel.at {E:Env} {w:World} {id:Nat} {cs:List Value} (h:RowRel E w id cs):At E w (E.blk id) (E.off id) cs:=h.cell
theorem WRel.fpAt {E:Env} {s:St H} {w:World} (hW:WRel E s w) {b p:Nat} {cs:Array Value} {f:Nat→Value} (hf:∀ j,j<cs.size→E.fz b (p+j)=some (f j)) (hr:∀ j (h:j<cs.size),VRel E cs[j] (f j)):At E w b p cs.toList :=
 fun j h=>⟨f j,(hW.frz _ _ _ (hf j (by simpa using h))).1,by rw [Array.getElem_toList]; exact hr j _⟩
theorem At.read {E:Env} {w:World} {b p:Nat} {cs l:List Value} {o n:Nat} (h:At E w b p cs) (ht:takeD cs o n=some l) :
 ∃ l',LRel E l l'∧l'.length=n∧∀ j v,l'[j]?=some v→w.cell? ((⟨b,p+o,none⟩:Addr).add j)=some v:=by
 obtain ⟨hl,hn⟩:=takeD_eq ht
 obtain ⟨l',hr,hp⟩:=exists_list (E:=E) l (fun j v'=>w.cell? ⟨b,p+(o+j),none⟩=some v') (fun i hi=>by
  have hi2:i<n:=hn ▸ hi
  have hlen:=takeD_len ht (by omega)
  obtain ⟨v',hv,hr⟩:=h (o+i) (by omega)
  refine ⟨v',hv,?_⟩
  have:l[i]=cs[o+i]'(by omega):=by subst hl; simp
  rw [this]; exact hr)
 refine ⟨l',hr,hr.1.symm.trans hn,fun j v hv=>?_⟩
 have hadd:(⟨b,p+o,none⟩:Addr).add j=⟨b,p+(o+j),none⟩:=by
  unfold Addr.add; split
  · subst_vars; rfl
  · simp [Nat.add_assoc]
 rw [hadd]; exact hp j v hv
theorem RowRel.read {E:Env} {w:World} {id:Nat} {cs l:List Value} {o n:Nat} (h:RowRel E w id cs) (ht:takeD cs o n=some l) :
 ∃ l',LRel E l l'∧l'.length=n∧∀ j v,l'[j]?=some v→w.cell? ((⟨E.blk id,E.off id+o,none⟩:Addr).add j)=some v:=h.at.read ht
theorem aggD_run {t:TypeId} {g:Bool} (h:aggD P t=some g) (w:World):(isAgg t).run P w=.ok g w:=by
 unfold aggD at h
 unfold isAgg underlying
 cases hu:P.underlying t with
 | none=>rw [hu] at h; cases h
 | some d =>
  rw [hu] at h
  cases d <;> simp_all
theorem sizeD_run {t:TypeId} {n:Nat} (h:sizeD P t=some n) (w:World):(sizeOf t).run P w=.ok n w:=by
 unfold sizeD at h
 obtain ⟨i,hi,rfl⟩:=msome h
 simp [sizeOf,typeInfo,hi]
theorem info_run {t:TypeId} {i:TypeInfo} (h:P.info? t=some i) (w:World):(typeInfo t).run P w=.ok i w:=by simp [typeInfo,h]
theorem und_run {t:TypeId} {d:TypeDesc} (h:P.underlying t=some d) (w:World):(underlying t).run P w=.ok d w:=by simp [underlying,h]
theorem part_load {E:Env} {w:World} {b p:Nat} {cs:List Value} (hc:At E w b p cs) {t:TypeId} {o:Nat} {v:Value} (h:partD P t cs o=some v) :
 ∃ v',(Instr.loadAt t (.pointer (some ⟨b,p+o,none⟩))).run P w=.ok v' w∧VRel E v v':=by
 unfold partD at h
 obtain ⟨g,hg,h⟩:=bsome h
 cases g with
 | true =>
  obtain ⟨n,hn,h⟩:=bsome h
  obtain ⟨l,hl,rfl⟩:=msome h
  obtain ⟨l',hlr,hlen,hcell⟩:=hc.read hl
  refine ⟨.agg l'.toArray,?_,VRel.aggL hlr⟩
  have:=run_loadCells_list (P:=P) w ⟨b,p+o,none⟩ l' hcell
  rw [hlen] at this
  simp [Instr.loadAt,Instr.sureAddr,loadVar,aggD_run hg,sizeD_run hn,this]
 | false =>
  simp only [cond_false] at h
  obtain ⟨hi,hv⟩:=List.getElem?_eq_some_iff.1 h
  obtain ⟨v',hcell,hrel⟩:=hc o hi
  refine ⟨v',?_,hv ▸ hrel⟩
  simp [Instr.loadAt,Instr.sureAddr,loadVar,aggD_run hg,hcell]
theorem load_ok {E:Env} {s:St H} {w:World} (hW:WRel E s w) {t:TypeId} {a a' v:Value} (ha:VRel E a a') (h:loadD P s t a=some v) :
 ∃ v',(Instr.loadAt t a').run P w=.ok v' w∧VRel E v v':=by
 unfold loadD at h
 split at h
 · obtain ⟨r,hr,h⟩:=bsome h
   obtain ⟨rfl,hid⟩:=ha.ptr_inv
   exact part_load (hW.row (rowD_eq hr)).at h
 · split at h
   · rename_i hc
     obtain ⟨b,p,f,rfl,hf,hrel⟩:=ha.fp_inv hc
     exact part_load (hW.fpAt hf hrel) h
   · rename_i hc
     obtain rfl:=ha.gp_inv hc
     obtain ⟨cs,hcs,h⟩:=bsome h
     have hg:=hW.glb _ _ hcs
     have hat:At E w _ 0 cs.toList:=fun j hj=>by
      obtain ⟨v',h1,h2⟩:=hg j (by simpa using hj)
      exact ⟨v',by rw [Nat.zero_add]; exact (hW.frz _ _ _ h1).1,by rw [Array.getElem_toList]; exact h2⟩
     have:=part_load hat h
     rwa [Nat.zero_add] at this
   · cases h
 · cases h
theorem valCells {E:Env} {v v':Value} (h:VRel E v v') (ho:v.cells.toList.all oneC=true):LRel E v.cells.toList v'.cells.toList:=by
 have hh:=h
 cases h with
 | agg a a' ha ra=>exact LRel.ofArr ha ra
 | dc v=>simp [Value.cells,oneC] at ho
 | tuple a a' ha ra=>simp [Value.cells,oneC] at ho
 | _=>exact .cons hh (.nil E)
theorem splice_len {cs l:List Value} {o:Nat} (h:o+l.length≤cs.length):(splice cs o l).length=cs.length:=by
 simp [splice]; omega
theorem splice_get {cs l:List Value} {o:Nat} (h:o+l.length≤cs.length) (i:Nat) (hi:i<cs.length) :
 (splice cs o l)[i]?=if o≤i∧i<o+l.length then l[i-o]? else cs[i]?:=by
 unfold splice
 by_cases h1:i<o
 · rw [if_neg (by omega),List.getElem?_append_left (by simp; omega),List.getElem?_take_of_lt h1]
 · rw [List.getElem?_append_right (by simp; omega)]
   have:(cs.take o).length=o:=by simp; omega
   rw [this]
   by_cases h2:i-o<l.length
   · rw [if_pos (by omega),List.getElem?_append_left h2]
   · rw [if_neg (by omega),List.getElem?_append_right (by omega),List.getElem?_drop]
     congr 1; omega
theorem storeAt_ok {E:Env} {s s':St H} {w:World} (hW:WRel E s w) {id o:Nat} {l l':List Value} (hl:LRel E l l') (h:storeAt s id o l=some s') :
 (storeCells ⟨E.blk id,E.off id+o,none⟩ l').run P w=.ok () (w.setCells (E.blk id) (E.off id+o) l')∧WRel E s' (w.setCells (E.blk id) (E.off id+o) l')∧Keep E w E (w.setCells (E.blk id) (E.off id+o) l'):=by
 unfold storeAt at h
 obtain ⟨r,hr,h⟩:=bsome h
 obtain ⟨hc,h⟩:=csome h
 injection h with h
 subst h
 simp only [Bool.and_eq_true] at hc
 obtain ⟨ho,hle⟩:=hc
 have hle:o+l.length≤r.length:=Nat.le_of_ble_eq_true hle
 have hg:=rowD_eq hr
 have hrow:=hW.row hg
 obtain ⟨e,hsh⟩:=hrow.shape
 have hroom:=hrow.room
 have hown:E.own id=true:=hrow.own
 have hlt:=hW.lt _ _ hg
 have hin:∀ j,j<l'.length→(w.cell? ⟨E.blk id,E.off id+o+j,none⟩).isSome=true:=fun j hj=>cell_of_shape hsh _ (by have:=hl.1; omega)
 refine ⟨?_,?_,?_⟩
 · have:=run_storeCells_cells (P:=P) (E.blk id) (E.off id+o) l' 0 w (fun j hj=>by simpa using hin j hj) (fun j hj=>hrow.free _ (by have:=hl.1; simp; omega)) (hl.oneC ho)
   simpa using this
 · refine hW.put id _ _ hg hown rfl (size_setCells _ _ _ _).symm (fun k hk=>heap_setCells _ _ _ _ _ hk) ?_
   refine ⟨⟨e,by rw [shape_setCells]; exact hsh⟩,by rw [splice_len hle]; exact hroom,fun i hi=>?_,hown,fun o' ho'=>by rw [World.frozen?_setCells]; exact hrow.free o' ho'⟩
   rw [splice_len hle] at hi
   have hget:=splice_get hle i hi
   by_cases hin2:o≤i∧i<o+l.length
   · rw [if_pos hin2] at hget
     have hj:i-o<l'.length:=by have:=hl.1; omega
     refine ⟨l'[i-o],?_,?_⟩
     · have:=World.cell?_setCells_in (E.blk id) l' (E.off id+o) w hin (i-o) hj
       rwa [show E.off id+o+(i-o)=E.off id+i by omega] at this
     · have hj2:i-o<l.length:=by omega
       have e1:(splice r o l)[i]'(by rw [splice_len hle]; exact hi)=l[i-o]:=by
        rw [List.getElem?_eq_getElem (by rw [splice_len hle]; exact hi),List.getElem?_eq_getElem hj2] at hget
        injection hget
       rw [e1]; exact hl.2 _ _ _
   · rw [if_neg hin2] at hget
     obtain ⟨v',hv,hrel⟩:=hrow.cell i hi
     refine ⟨v',?_,?_⟩
     · rw [World.cell?_setCells_out]
       · exact hv
       · intro _ _; have:=hl.1; simp only; omega
     · have e1:(splice r o l)[i]'(by rw [splice_len hle]; exact hi)=r[i]:=by
        rw [List.getElem?_eq_getElem (by rw [splice_len hle]; exact hi),List.getElem?_eq_getElem hi] at hget
        injection hget
       rw [e1]; exact hrel
 · obtain ⟨r1,r2,r3⟩:=rest_setCells (E.blk id) l' (E.off id+o) w
   exact ⟨.refl E,fun i a b=>by omega,fun _ h=>.inl h,r1,r2,r3,Nat.le_of_eq (size_setCells _ _ _ _).symm,fun b hb hn _=>heap_setCells _ _ _ _ _ (fun e=>hn id hlt hown e.symm),fun _ _ _ _ _=>rfl⟩
theorem store_ok {E:Env} {s s':St H} {w:World} (hW:WRel E s w) {t:TypeId} {a a' v v':Value} (ha:VRel E a a') (hv:VRel E v v') (h:storeD P s t a v=some s') :
 ∃ w',(Instr.storeAt t a' v').run P w=.ok () w'∧WRel E s' w'∧Keep E w E w':=by
 unfold storeD at h
 obtain ⟨p,hp,h⟩:=bsome h
 obtain ⟨n,hn,h⟩:=bsome h
 obtain ⟨hc,h⟩:=csome h
 rw [ptrD_eq hp] at ha
 obtain ⟨rfl,hid⟩:=ha.ptr_inv
 have hall:v.cells.toList.all oneC=true:=by
  unfold storeAt at h
  obtain ⟨r,hr,h⟩:=bsome h
  obtain ⟨hc,h⟩:=csome h
  simp only [Bool.and_eq_true] at hc
  exact hc.1
 have hl:=valCells hv hall
 obtain ⟨h1,h2,h3⟩:=storeAt_ok (P:=P) hW hl h
 refine ⟨_,?_,h2,h3⟩
 have hlen:v'.cells.size=n:=by
  have e1:=Nat.eq_of_beq_eq_true hc
  have e2:=hl.1
  simp at e1 e2
  omega
 simp [Instr.storeAt,Instr.sureAddr,storeVar,sizeD_run hn,hlen,h1]
theorem WRel.no_tb {E:Env} {s:St H} {w:World} (h:WRel E s w) {b:Nat} (hb:w.heap.size≤b):E.tb b=false:=by
 cases hq:E.tb b with
 | false=>rfl
 | true=>have:=h.tbl b hq; omega
theorem WRel.no_fz {E:Env} {s:St H} {w:World} (h:WRel E s w) {b:Nat} (hb:w.heap.size≤b) {o:Nat} {v:Value} (hv:E.fz b o=some v):False:=by
 have:=h.fz_lt hv; omega
theorem newObj_ok {E:Env} {s:St H} {w:World} (hW:WRel E s w) (x:DObj) (ob:Obj) (o z:Nat) (hxo:owned x=true) (hx:(w.alloc ob).heap[w.heap.size]?=some ob→ORel' (E.add w.heap.size o z) (w.alloc ob) E.n x) :
 WRel (E.add w.heap.size o z) (newD s x) (w.alloc ob)∧Keep E w (E.add w.heap.size o z) (w.alloc ob):=by
 have hb:(w.alloc ob).heap[w.heap.size]?=some ob:=by
  show (w.heap.push _)[w.heap.size]?=_
  rw [Array.getElem?_push_size]
 refine ⟨hW.new w.heap.size o z x hxo (by simp) (by simp) (fun k hk _=>Below.heap_alloc _ _ _ hk) (fun i oi hi ho e=>by have:=hW.blt i (hW.lt i oi hi) ho; omega) (hW.no_tb (Nat.le_refl _)) (fun o v hv=>hW.no_fz (Nat.le_refl _) hv) (hx hb),?_⟩
 refine ⟨E.le_add _ _ _,fun i a b c=>.inr ?_,fun _ h=>.inl h,rfl,rfl,rfl,by simp,fun b hb _ _=>Below.heap_alloc _ _ _ hb,fun _ _ _ _ _=>rfl⟩
 have:i=E.n:=by have:i<E.n+1:=b; omega
 subst this; simp
theorem newRow_okF {E:Env} {s:St H} {w:World} (hW:WRel E s w) {l:List Value} {cells:Array Value} (e:TypeId) (fz:Nat×Nat) (hfz:∀ o,o≤cells.size→(decide (fz.1≤o)&&decide (o<fz.2))=false) (hle:l.length≤cells.size)
 (hl:∀ i (h:i<l.length) (h':i<cells.size),VRel E l[i] cells[i]) :
 WRel (E.add w.heap.size 0 cells.size) (newD s (.row l)) (w.alloc (.cells cells e fz))∧Keep E w (E.add w.heap.size 0 cells.size) (w.alloc (.cells cells e fz)):=by
 refine newObj_ok hW _ _ _ _ rfl fun hb=>?_
 refine ⟨⟨e,by simp only [World.shape?,Env.add_blk,Env.add_sz,hb]⟩,by simpa using hle,fun i hi=>⟨cells[i]'(Nat.lt_of_lt_of_le hi hle),by simp only [World.cell?,Env.add_blk,Env.add_off,hb]; simp [Nat.lt_of_lt_of_le hi hle],(hl i hi _).mono (E.le_add _ _ _)⟩,by simp,fun o ho=>?_⟩
 simp only [World.frozen?,Env.add_blk,hb]
 exact hfz o (by simpa using ho)
theorem newRow_ok {E:Env} {s:St H} {w:World} (hW:WRel E s w) {l:List Value} {cells:Array Value} (e:TypeId) (hle:l.length≤cells.size)
 (hl:∀ i (h:i<l.length) (h':i<cells.size),VRel E l[i] cells[i]) :
 WRel (E.add w.heap.size 0 cells.size) (newD s (.row l)) (w.alloc (.cells cells e))∧Keep E w (E.add w.heap.size 0 cells.size) (w.alloc (.cells cells e)) :=
 newRow_okF hW e (0,0) (fun o _=>by simp) hle hl
theorem zeroD_eq {t:TypeId} {l:List Value} (h:zeroD P t=some l):∃ i v,P.info? t=some i∧i.zero=some v∧v.cells.toList.map nz1=l∧v.cells.toList.all flat1=true:=by
 unfold zeroD at h
 obtain ⟨v,hv,h⟩:=bsome h
 obtain ⟨i,hi,hz⟩:=bsome hv
 obtain ⟨h1,h2⟩:=csome h
 injection h2 with h2
 exact ⟨i,v,hi,hz,h2,h1⟩
theorem zeroV_eq {t:TypeId} {v:Value} (h:zeroV P t=some v):∃ i u,P.info? t=some i∧i.zero=some u∧v=nz u∧flat u=true:=by
 unfold zeroV at h
 obtain ⟨u,hv,h⟩:=bsome h
 obtain ⟨i,hi,hz⟩:=bsome hv
 obtain ⟨h1,h2⟩:=csome h
 injection h2 with h2
 exact ⟨i,u,hi,hz,h2.symm,h1⟩
theorem alloc_ok {E:Env} {s:St H} {w:World} (hW:WRel E s w) {t:TypeId} {p:Value×St H} (h:allocD P s t=some p):Goes E w p.2 p.1 ((Instr.alloc t true (.tuple #[])).run P w):=by
 unfold allocD at h
 obtain ⟨l,hl,rfl⟩:=msome h
 obtain ⟨i,v,hi,hz,rfl,hf⟩:=zeroD_eq hl
 obtain ⟨h1,h2⟩:=newRow_ok hW (l:=v.cells.toList.map nz1) (cells:=v.cells) t (by simp) (fun i a b=>by
  rw [List.getElem_map,Array.getElem_toList]
  exact nz1_rel (List.all_eq_true.1 hf _ (by simp)))
 refine ⟨_,.pointer (some ⟨w.heap.size,0,none⟩),_,?_,?_,h1,h2⟩
 · simp [Instr.alloc,zeroValue,typeInfo,hi,hz,newVar,newRow]
 · have:=VRel.ptr (E:=E.add w.heap.size 0 v.cells.size) E.n 0 (Nat.lt_succ_self _)
   simp only [Env.add_blk,Env.add_off] at this
   rw [← hW.n]; exact this
theorem box_ok {E:Env} {s:St H} {w:World} (hW:WRel E s w) {t:TypeId} {v v':Value} (hv:VRel E v v') {p:Value×St H} (h:boxD s v=some p):Goes E w p.2 p.1 ((Instr.box t v').run P w):=by
 unfold boxD at h
 obtain ⟨hc,h⟩:=csome h
 injection h with h
 subst h
 have hl:=valCells hv hc
 obtain ⟨h1,h2⟩:=newRow_ok hW (l:=v.cells.toList) (cells:=v'.cells) t (by simpa using Nat.le_of_eq hl.1) (fun i a b=>by
  have:=hl.2 i a (by simpa using b)
  rwa [Array.getElem_toList (xs:=v'.cells)] at this)
 refine ⟨_,.pointer (some ⟨w.heap.size,0,none⟩),_,?_,?_,h1,h2⟩
 · simp [Instr.box,newVar,newRow]
 · have:=VRel.ptr (E:=E.add w.heap.size 0 v'.cells.size) E.n 0 (Nat.lt_succ_self _)
   simp only [Env.add_blk,Env.add_off] at this
   rw [← hW.n]; exact this
end Go.FS
