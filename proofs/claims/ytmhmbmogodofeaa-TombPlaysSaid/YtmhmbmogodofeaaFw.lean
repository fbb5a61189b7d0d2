import Derived.Test.YtmhmbmogodofeaaFv
namespace Go.FS
variable {H:HeapI} {P:Program}
theorem bindS {α β:Type} (a:α) (f:α→Option β):(some a).bind f=f a:=by
 have h:∀ x,x=some a→x.bind f=f a:=by intro x hx; subst hx; rfl
 exact h _ rfl
theorem condT {α:Type} (a b:α):cond true a b=a:=by
 have h:∀ x,x=true→cond x a b=a:=by intro x hx; subst hx; rfl
 exact h _ rfl
theorem condF {α:Type} (a b:α):cond false a b=b:=by
 have h:∀ x,x=false→cond x a b=b:=by intro x hx; subst hx; rfl
 exact h _ rfl
theorem gdB {R:Type} (x:Bool) (a b c:Option R):gd (.bool x) a b c=cond x a b:=by
 have h:∀ v,v=Value.bool x→gd v a b c=cond x a b:=by intro x hx; subst hx; rfl
 exact h _ rfl
theorem boolS (b:Bool):boolD (.bool b)=some b:=by
 have h:∀ v,v=Value.bool b→boolD v=some b:=by intro x hx; subst hx; rfl
 exact h _ rfl
theorem many1 {X:Type} (p:Value×St H) (k:Value→St H→Option (List X)):manyK [p] k=k p.1 p.2:=by
 have h:∀ L,L=[p]→manyK L k=k p.1 p.2:=by intro x hx; subst hx; rfl
 exact h _ rfl
theorem oneS {C:OracleJ H} {g:Tgt} {a:List Value} {s:St H} {p:Value×St H} (h:C g a s=some [p]):oneO C g a s=some p:=by unfold oneO; rw [h]
theorem jnE {α β:Sort _} (r:α) (f:α→β):jn r f=f r:=by
 have h:∀ g:α→β,g=f→jn r g=f r:=by intro x hx; subst hx; rfl
 exact h _ rfl
theorem fst' {α β:Type} (a:α) (b:β):(a,b).1=a:=rfl
theorem snd' {α β:Type} (a:α) (b:β):(a,b).2=b:=rfl
theorem bind_cg {α β:Type} {x y:Option α} {f:α→Option β} (h:x=y):x.bind f=y.bind f:=by rw [h]
theorem cond_cg {α:Type} {x y:Bool} {a b:α} (h:x=y):cond x a b=cond y a b:=by rw [h]
theorem gd_cg {R:Type} {v w:Value} {a b c:Option R} (h:v=w):gd v a b c=gd w a b c:=by rw [h]
theorem o_bool:(dOps (H:=H) P).boolO=boolD:=rfl
theorem o_alloc:(dOps (H:=H) P).alloc=allocD P:=rfl
theorem o_box:(dOps (H:=H) P).box=boxD:=rfl
theorem o_build:(dOps (H:=H) P).build=buildD P:=rfl
theorem o_buildSlice:(dOps (H:=H) P).buildSlice=buildSliceD P:=rfl
theorem o_load:(dOps (H:=H) P).load=loadD P:=rfl
theorem o_store:(dOps (H:=H) P).store=storeD P:=rfl
theorem o_nilCheck:(dOps (H:=H) P).nilCheck=nilCheckD:=rfl
theorem o_bop:(dOps (H:=H) P).bop=bopD P:=rfl
theorem o_uop:(dOps (H:=H) P).uop=uopD P:=rfl
theorem o_conv:(dOps (H:=H) P).conv=convertD P:=rfl
theorem o_makeSlice:(dOps (H:=H) P).makeSlice=makeSliceD P:=rfl
theorem o_slc:(dOps (H:=H) P).slc=slcD P:=rfl
theorem o_fieldAddr:(dOps (H:=H) P).fieldAddr=fieldAddrD P:=rfl
theorem o_field:(dOps (H:=H) P).field=fieldD P:=rfl
theorem o_indexAddr:(dOps (H:=H) P).indexAddr=indexAddrD P:=rfl
theorem o_index:(dOps (H:=H) P).index=indexD P:=rfl
theorem o_extract:(dOps (H:=H) P).extract=extractD:=rfl
theorem o_makeMap:(dOps (H:=H) P).makeMap=makeMapO P:=rfl
theorem o_lookup:(dOps (H:=H) P).lookup=lookupD P:=rfl
theorem o_mapUpdate:(dOps (H:=H) P).mapUpdate=mapUpdateD P:=rfl
theorem o_mapEntry:(dOps (H:=H) P).mapEntry=mapEntryD P:=rfl
theorem o_entryStore:(dOps (H:=H) P).entryStore=entryStoreD:=rfl
theorem o_range:(dOps (H:=H) P).range=rangeD P:=rfl
theorem o_nexts:(dOps (H:=H) P).nexts=nextsD:=rfl
theorem o_entry:(dOps (H:=H) P).entry=entryD:=rfl
theorem o_len:(dOps (H:=H) P).len=lenOfD P:=rfl
theorem o_append:(dOps (H:=H) P).append=appD P:=rfl
theorem o_delete:(dOps (H:=H) P).delete=deleteD P:=rfl
theorem o_min:(dOps (H:=H) P).minO=minD P:=rfl
theorem o_max:(dOps (H:=H) P).maxO=maxD P:=rfl
theorem o_tgt:(dOps (H:=H) P).tgt=tgtD:=rfl
theorem b_neq (t:TypeId) (k:IntKind) (a b:Int):bopD P .neq t (.int k a) (.int k b)=some (.bool (!decide (a=b))):=by rw [bop_int]; simp [intS]
theorem b_sub (t:TypeId) (k:IntKind) (a b:Int):bopD P .sub t (.int k a) (.int k b)=some (.int k (k.wrap (a-b))):=by rw [bop_int]; simp [intS]
theorem b_rem (t:TypeId) (k:IntKind) (a b:Int) (h:b≠0):bopD P .rem t (.int k a) (.int k b)=some (.int k (a.tmod b)):=by rw [bop_int]; simp [intS,h]
theorem b_quo (t:TypeId) (k:IntKind) (a b:Int) (h:b≠0):bopD P .quo t (.int k a) (.int k b)=some (.int k (k.wrap (a.tdiv b))):=by rw [bop_int]; simp [intS,h]
theorem max_int (k:IntKind) (a b:Int):maxD P (.int k a) [.int k b]=some (.int k (if a<b then b else a)):=by cases k <;> rfl
theorem min_nat (k:IntKind) (a b:Nat):minD P (.int k (a:Int)) [.int k (b:Int)]=some (.int k ((min a b:Nat):Int)):=by
 rw [min_int]
 by_cases h:(b:Int)<a
 · rw [if_pos h,Nat.min_eq_right (by omega)]
 · rw [if_neg h,Nat.min_eq_left (by omega)]
theorem conv_int {md:Bool} {s:St H} {a b:TypeId} {k:IntKind} {d:TypeDesc} (ha:P.underlying a=some d) (hb:P.underlying b=some (.int k)) (j:IntKind) (n:Int):convertD P md s a b (.int j n)=some (.int k (k.wrap n),s):=by
 simp only [convertD,ha,hb]
theorem newD_n (s:St H) (o:DObj):(newD s o).n=s.n+1:=rfl
theorem newD_get (s:St H) (o:DObj) (i:Nat):H.get (newD s o).h i=if i=s.n then some o else H.get s.h i:=by simp only [newD,H.get_put]
theorem putD_n (s:St H) (j:Nat) (o:DObj):(putD s j o).n=s.n:=rfl
theorem putD_get (s:St H) (j:Nat) (o:DObj) (i:Nat):H.get (putD s j o).h i=if i=j then some o else H.get s.h i:=by simp only [putD,H.get_put]
theorem get_new {s:St H} {o:DObj} {i:Nat} (h:i=s.n):H.get (newD s o).h i=some o:=by rw [newD_get,if_pos h]
theorem get_old {s:St H} {o:DObj} {i:Nat} (h:i≠s.n):H.get (newD s o).h i=H.get s.h i:=by rw [newD_get,if_neg h]
theorem get_put_same {s:St H} {o:DObj} (i:Nat):H.get (putD s i o).h i=some o:=by rw [putD_get,if_pos rfl]
theorem get_put_other {s:St H} {o:DObj} {i j:Nat} (h:i≠j):H.get (putD s j o).h i=H.get s.h i:=by rw [putD_get,if_neg h]
theorem row_of {s:St H} {i:Nat} {cs:List Value} (h:H.get s.h i=some (.row cs)):rowD s i=some cs:=by unfold rowD; rw [h]
theorem map_of {s:St H} {i:Nat} {es:List (Value×Value×Nat)} {c:Nat} (h:H.get s.h i=some (.map es c)):mapD s i=some (es,c):=by unfold mapD; rw [h]
theorem tok_of {s:St H} {i a z:Nat} (h:H.get s.h i=some (.tok a z)):tokD s i=some (a,z):=by unfold tokD; rw [h]
def Ext (s s':St H):Prop:=s.n≤s'.n∧∀ i,i<s.n→H.get s'.h i=H.get s.h i
theorem Ext.refl (s:St H):Ext s s:=⟨Nat.le_refl _,fun _ _=>rfl⟩
theorem Ext.trans {a b c:St H} (h:Ext a b) (k:Ext b c):Ext a c:=⟨Nat.le_trans h.1 k.1,fun i hi=>(k.2 i (Nat.lt_of_lt_of_le hi h.1)).trans (h.2 i hi)⟩
theorem Ext.new {a s:St H} (h:Ext a s) (o:DObj):Ext a (newD s o):=⟨by have:=h.1; rw [newD_n]; omega,fun i hi=>by have:=h.1; rw [get_old (by omega),h.2 i hi]⟩
theorem Ext.put {a s:St H} (h:Ext a s) {j:Nat} (hj:a.n≤j) (o:DObj):Ext a (putD s j o):=⟨h.1,fun i hi=>by rw [get_put_other (by omega),h.2 i hi]⟩
theorem Ext.get {a s:St H} (h:Ext a s) {i:Nat} {o:Option DObj} (hi:i<a.n) (hg:H.get a.h i=o):H.get s.h i=o:=by rw [h.2 i hi,hg]
theorem part_one {t:TypeId} {cs:List Value} {o:Nat} (ha:aggD P t=some false):partD P t cs o=cs[o]?:=by simp only [partD,ha,bindS,condF]
theorem part_agg {t:TypeId} {cs l:List Value} {o n:Nat} (ha:aggD P t=some true) (hz:sizeD P t=some n) (hl:(cs.drop o).take n=l) (hn:l.length=n):partD P t cs o=some (.agg l.toArray):=by
 have e:Nat.beq l.length n=true:=by rw [hn]; exact beq_yes n
 simp only [partD,ha,hz,bindS,condT,takeD,hl,e,Option.map_some]
theorem load_row {s:St H} {t:TypeId} {id o:Nat} {cs:List Value} (h:H.get s.h id=some (.row cs)):loadD P s t (.pointer (some ⟨id,o,none⟩))=partD P t cs o:=by
 simp only [loadD,row_of h,bindS]
theorem load_fp {s:St H} {t:TypeId} {cs:Array Value} {o:Nat}:loadD P s t (fpV cs o)=partD P t cs.toList o:=rfl
theorem store_row {s:St H} {t:TypeId} {id o n:Nat} {r l:List Value} {v:Value} (hz:sizeD P t=some n) (h:H.get s.h id=some (.row r)) (hv:v.cells.toList=l) (hl:l.length=n) (h1:l.all oneC=true) (ho:o+n≤r.length) :
 storeD P s t (.pointer (some ⟨id,o,none⟩)) v=some (putD s id (.row (splice r o l))):=by
 have e:Nat.beq l.length n=true:=by rw [hl]; exact beq_yes n
 have e2:Nat.ble (o+l.length) r.length=true:=by rw [hl]; exact Nat.ble_eq_true_of_le ho
 simp only [storeD,ptrD,bindS,hz,hv,e,condT,storeAt,row_of h,h1,e2,Bool.and_self]
theorem alloc_at {s:St H} {t:TypeId} {l:List Value} (h:zeroD P t=some l):allocD P s t=some (.pointer (some ⟨s.n,0,none⟩),newD s (.row l)):=by simp only [allocD,h,Option.map_some]
theorem box_at {s:St H} {v:Value} {l:List Value} (hv:v.cells.toList=l) (h:l.all oneC=true):boxD s v=some (.pointer (some ⟨s.n,0,none⟩),newD s (.row l)):=by simp only [boxD,hv,h,condT]
theorem field_own {t:TypeId} {fs:Array Field} {f id o n:Nat} {fd:Field} (hu:P.underlying t=some (.struct fs)) (hf:fs[f]?=some fd) (hz:sizeD P fd.type=some n) (hn:n≠0):fieldAddrD P t (.pointer (some ⟨id,o,none⟩)) f=some (.pointer (some ⟨id,o+fd.offset,none⟩)):=by
 simp only [fieldAddrD,hu,hf,bindS,hz,beq_no hn,condF]
theorem field_fp {t:TypeId} {fs:Array Field} {f o n:Nat} {cs:Array Value} {fd:Field} (hu:P.underlying t=some (.struct fs)) (hf:fs[f]?=some fd) (hz:sizeD P fd.type=some n) (hn:n≠0):fieldAddrD P t (fpV cs o) f=some (fpV cs (o+fd.offset)):=by
 unfold fieldAddrD
 rw [hu]
 show ((fs[f]?).bind fun fd=>(sizeD P fd.type).bind fun z=>bif Nat.beq z 0 then none else some (fpV cs (o+fd.offset)))=_
 simp only [hf,bindS,hz,beq_no hn,condF]
theorem fz_list (m:Nat) (els:List (List Value)):fz m els=.iface m (.tuple (els.map fun e=>Value.agg e.toArray).toArray):=rfl
theorem isFz_fz (els:List (List Value)):isFz (els.map fun e=>Value.agg e.toArray).toArray=true:=by cases els <;> rfl
theorem fzOk_fz {z:Nat} {els:List (List Value)} (h:∀ e∈els,e.length=z):fzOk z (els.map fun e=>Value.agg e.toArray).toArray=true:=by
 cases els with
 | nil=>rfl
 | cons e l =>
  show Nat.beq (e.toArray.size) z=true
  have:e.toArray.size=z:=by rw [List.size_toArray]; exact h e (List.mem_cons_self ..)
  rw [this]; exact beq_yes z
theorem fz_size (els:List (List Value)):(els.map fun e=>Value.agg e.toArray).toArray.size=els.length:=by simp
theorem len_fz {s:St H} {t e:TypeId} {m:Nat} {els:List (List Value)} (hu:P.underlying t=some (.slice e)):lenOfD P s t (fz m els)=some (.int .i64 els.length):=by
 simp only [fz_list,lenOfD,hu,isFz_fz,condT,fz_size]
theorem index_fz {t e:TypeId} {m z i:Nat} {k:IntKind} {els:List (List Value)} (hu:P.underlying t=some (.slice e)) (hz:sizeD P e=some z) (hi:i<els.length) (hl:els[i].length=z):indexAddrD P t (fz m els) (.int k (i:Int))=some (fpV els[i].toArray 0):=by
 have h0:decide ((0:Int)≤(i:Int))=true:=by simp
 have h1:(els.map fun e=>Value.agg e.toArray).toArray.toList[i]?=some (.agg els[i].toArray):=by simp [List.getElem?_map,hi]
 have h2:Nat.beq els[i].toArray.size z=true:=by rw [List.size_toArray,hl]; exact beq_yes z
 simp only [fz_list,indexAddrD,hu,hz,bindS,h0,condT,Int.toNat_natCast,elD,h1,h2,Option.map_some]
def sl {α:Type} (enc:α→List Value) (m:Nat) (xs:List α):Value:=fz m (xs.map enc)
theorem len_sl {α:Type} {enc:α→List Value} {s:St H} {t e:TypeId} {m:Nat} {xs:List α} (hu:P.underlying t=some (.slice e)):lenOfD P s t (sl enc m xs)=some (.int .i64 xs.length):=by
 unfold sl; rw [len_fz hu,List.length_map]
theorem index_sl {α:Type} {enc:α→List Value} {t e:TypeId} {m z i:Nat} {k:IntKind} {xs:List α} (hu:P.underlying t=some (.slice e)) (hz:sizeD P e=some z) (hl:∀ x,(enc x).length=z) (hi:i<xs.length):indexAddrD P t (sl enc m xs) (.int k (i:Int))=some (fpV (enc xs[i]).toArray 0):=by
 have hi':i<(xs.map enc).length:=by rw [List.length_map]; exact hi
 have:=index_fz (m:=m) (k:=k) (els:=xs.map enc) hu hz hi' (by rw [List.getElem_map]; exact hl _)
 unfold sl
 rw [this,List.getElem_map]
theorem sl_nil {α:Type} (enc:α→List Value):fzV 2 #[]=sl enc 2 []:=rfl
theorem app_new {α:Type} {enc:α→List Value} {s:St H} {t xt e e2:TypeId} {i:TypeInfo} {m m2:Nat} {xs ys:List α} {zs:List Value} (hu:P.underlying t=some (.slice e)) (hx:P.underlying xt=some (.slice e2)) (hi:P.info? e=some i) (hz:zeroD P e=some zs) (hzl:zs.length=i.size) (h0:0<i.size)
 (hl:∀ x,(enc x).length=i.size) (hm:m=1∨m=2) (hb:(xs.length+ys.length)*i.bytes≤140737488355328) (hb2:xs.length+ys.length≤140737488355328) :
 appD P false s t xt (sl enc m xs) (sl enc m2 ys)=some (sl enc (s.n+3) (xs++ys),newD s (.tok (xs.length+ys.length) i.size)):=by
 have hni:isInt P xt=false:=by unfold isInt; rw [hx]
 have hfa:fzOk i.size ((xs.map enc).map fun e=>Value.agg e.toArray).toArray=true:=fzOk_fz fun e he=>by obtain ⟨x,_,rfl⟩:=List.mem_map.1 he; exact hl x
 have hfb:fzOk i.size ((ys.map enc).map fun e=>Value.agg e.toArray).toArray=true:=fzOk_fz fun e he=>by obtain ⟨x,_,rfl⟩:=List.mem_map.1 he; exact hl x
 have hcond:(decide ((xs.length+ys.length)*i.bytes≤140737488355328)&&decide (xs.length+ys.length≤140737488355328)&&Nat.beq zs.length i.size&&Nat.blt 0 i.size)=true:=by
  rw [hzl,beq_yes,decide_eq_true hb,decide_eq_true hb2,blt_dec,decide_eq_true h0]; rfl
 have he:elemsD s i.size ys.length (sl enc m2 ys)=some ((ys.map enc).map fun e=>Value.agg e.toArray):=by
  simp only [sl,fz_list,elemsD,fz_size,List.length_map,Nat.ble_eq_true_of_le (Nat.le_refl _),hfb,Bool.and_self,condT]
  rw [List.take_of_length_le (by simp)]
 have hlen:∀ (m:Nat) (xs:List α),lenD (sl enc m xs)=some xs.length:=by intro m xs; simp only [sl,fz_list,lenD,isFz_fz,condT,fz_size,List.length_map]
 unfold appD
 rw [hni,condF]
 unfold appendD
 simp only [hu,hx,bindS,hi,hlen,hz,hcond,condT]
 show (bif fzOk i.size ((xs.map enc).map fun e=>Value.agg e.toArray).toArray then _ else none)=_
 rw [hfa,condT]
 have fin:(fzV (s.n+3) (((xs.map enc).map fun e=>Value.agg e.toArray).toArray.toList++((ys.map enc).map fun e=>Value.agg e.toArray)).toArray)=sl enc (s.n+3) (xs++ys):=by
  simp [sl,fz]
 rcases hm with rfl | rfl
 · simp only [he,Option.map_some,Bool.false_and,condF,appNew,fin]
 · simp only [he,Option.map_some,Bool.false_and,condF,appNew,fin]
theorem app_tok {α:Type} {enc:α→List Value} {s:St H} {t xt e e2:TypeId} {i:TypeInfo} {id m2:Nat} {xs ys:List α} {zs:List Value} (hu:P.underlying t=some (.slice e)) (hx:P.underlying xt=some (.slice e2)) (hi:P.info? e=some i) (hz:zeroD P e=some zs) (hzl:zs.length=i.size) (h0:0<i.size)
 (hl:∀ x,(enc x).length=i.size) (ht:H.get s.h id=some (.tok xs.length i.size)) (hb:(xs.length+ys.length)*i.bytes≤140737488355328) (hb2:xs.length+ys.length≤140737488355328) :
 appD P false s t xt (sl enc (id+3) xs) (sl enc m2 ys)=some (sl enc (id+3) (xs++ys),putD s id (.tok (xs.length+ys.length) i.size)):=by
 have hni:isInt P xt=false:=by unfold isInt; rw [hx]
 have hfa:fzOk i.size ((xs.map enc).map fun e=>Value.agg e.toArray).toArray=true:=fzOk_fz fun e he=>by obtain ⟨x,_,rfl⟩:=List.mem_map.1 he; exact hl x
 have hfb:fzOk i.size ((ys.map enc).map fun e=>Value.agg e.toArray).toArray=true:=fzOk_fz fun e he=>by obtain ⟨x,_,rfl⟩:=List.mem_map.1 he; exact hl x
 have hcond:(decide ((xs.length+ys.length)*i.bytes≤140737488355328)&&decide (xs.length+ys.length≤140737488355328)&&Nat.beq zs.length i.size&&Nat.blt 0 i.size)=true:=by
  rw [hzl,beq_yes,decide_eq_true hb,decide_eq_true hb2,blt_dec,decide_eq_true h0]; rfl
 have he:elemsD s i.size ys.length (sl enc m2 ys)=some ((ys.map enc).map fun e=>Value.agg e.toArray):=by
  simp only [sl,fz_list,elemsD,fz_size,List.length_map,Nat.ble_eq_true_of_le (Nat.le_refl _),hfb,Bool.and_self,condT]
  rw [List.take_of_length_le (by simp)]
 have hlen:∀ (m:Nat) (xs:List α),lenD (sl enc m xs)=some xs.length:=by intro m xs; simp only [sl,fz_list,lenD,isFz_fz,condT,fz_size,List.length_map]
 unfold appD
 rw [hni,condF]
 unfold appendD
 simp only [hu,hx,bindS,hi,hlen,hz,hcond,condT]
 show (bif fzOk i.size ((xs.map enc).map fun e=>Value.agg e.toArray).toArray then ((elemsD s i.size ys.length (sl enc m2 ys)).bind fun new=>(tokD s id).bind fun L=>bif Nat.beq L.1 xs.length&&Nat.beq L.2 i.size then some (fzV (id+3) (((xs.map enc).map fun e=>Value.agg e.toArray).toArray.toList++new).toArray,putD s id (.tok (xs.length+ys.length) i.size)) else none) else none)=_
 rw [hfa,condT,he,bindS,tok_of ht,bindS]
 simp only [beq_yes,Bool.and_self,condT]
 simp [sl,fz,fzV]
theorem loop_rule {R σ:Type} {g:(σ→St H→Option R)→(Nat→σ→St H→Option R)→(σ→St H→Option R)→σ→St H→Option R} {kx:Nat→σ→St H→Option R} {kr:σ→St H→Option R} (Inv:Nat→σ→St H→Prop) (Q:Option R→Prop)
 (hstep:∀ d x s,Inv d x s→∀ nx:σ→St H→Option R,(∀ d' x' s',d'<d→Inv d' x' s'→Q (nx x' s'))→Q (g nx kx kr x s)):∀ m d x s,Inv d x s→d<m→Q (iterS g kx kr m x s)
 | 0,d,x,s,_,h=>by omega
 | m+1,d,x,s,hI,h=>by
  rw [iterS_succ]
  exact hstep d x s hI _ fun d' x' s' hd hI'=>loop_rule Inv Q hstep m d' x' s' hI' (by omega)
theorem list_rule {R σ α:Type} {g:(σ→St H→Option R)→(Nat→σ→St H→Option R)→(σ→St H→Option R)→σ→St H→Option R} {kx:Nat→σ→St H→Option R} {kr:σ→St H→Option R} (xs:List α) (Inv:Nat→σ→St H→Prop) (Q:Option R→Prop)
 (hstep:∀ (i:Nat) (hi:i<xs.length) x s,Inv i x s→∀ nx:σ→St H→Option R,(∀ x' s',Inv (i+1) x' s'→Q (nx x' s'))→Q (g nx kx kr x s))
 (hend:∀ x s,Inv xs.length x s→∀ nx:σ→St H→Option R,Q (g nx kx kr x s)) {m:Nat} {x:σ} {s:St H} (h0:Inv 0 x s) (hm:xs.length<m):Q (iterS g kx kr m x s):=by
 refine loop_rule (fun d x s=>∃ i,i+d=xs.length∧Inv i x s) Q ?_ m xs.length x s ⟨0,by omega,h0⟩ hm
 rintro d x s ⟨i,hi,hI⟩ nx hnx
 by_cases h:d=0
 · have:i=xs.length:=by omega
   subst this
   exact hend x s hI nx
 · exact hstep i (by omega) x s hI nx fun x' s' h'=>hnx (d-1) x' s' (by omega) ⟨i+1,by omega,h'⟩
def One (r:Option (List (Value×St H))) (Q:Value→St H→Prop):Prop:=∃ v s',r=some [(v,s')]∧Q v s'
theorem One.ret {v:Value} {s:St H} {Q:Value→St H→Prop} (h:Q v s):One (some [(v,s)]) Q:=⟨v,s,rfl,h⟩
theorem One.mono {r:Option (List (Value×St H))} {Q Q':Value→St H→Prop} (h:One r Q) (k:∀ v s,Q v s→Q' v s):One r Q':=by obtain ⟨v,s,e,q⟩:=h; exact ⟨v,s,e,k v s q⟩
section cut
variable {G:Nat→Option (Array Value)}
theorem mrg_same {s s':St (FG G)} (h:Ext s s'):mrg s s'=s:=by
 unfold mrg
 cases s with
 | mk hh n =>
  congr 1
  funext i
  have:=mrgH_get (H:=FG G) n s'.h hh i
  have e:mrgH (FG G) n s'.h hh i=if i<n then s'.h i else hh i:=this
  show mrgH (FG G) n s'.h hh i=hh i
  rw [e]
  by_cases hi:i<n
  · rw [if_pos hi]; exact h.2 i hi
  · rw [if_neg hi]
theorem frz1_bel {n k:Nat} {s:St H} {c:Value} (h:Bel n (stripN (k+1) n c)):frz1 n s c=(c,s):=by
 unfold frz1
 split
 next id o len cc =>
  have h:Bel n (.slice (some ⟨id,o,none⟩) len cc):=h
  cases h with
  | slice _ _ _ _ hlt=>rw [if_neg (by omega)]
 next=>rfl
theorem frzL_same {f:St H→Value→Value×St H}:∀ (l:List Value) (s:St H),(∀ c∈l,∀ s,f s c=(c,s))→frzL f l s=(l,s)
 | [],_,_=>rfl
 | c::l,s,h=>by
  show ((f s c).1::(frzL f l (f s c).2).1,(frzL f l (f s c).2).2)=_
  rw [h c (List.mem_cons_self ..),frzL_same l s fun x hx=>h x (List.mem_cons_of_mem _ hx)]
theorem frz2_bel {n k:Nat} {s:St H} {c:Value} (h:Bel n (stripN (k+2) n c)):frz2 n s c=(c,s):=by
 unfold frz2
 split
 next a =>
  have h:Bel n (.agg (a.toList.map (stripN (k+1) n)).toArray):=h
  have hb:∀ x∈a.toList,Bel n (stripN (k+1) n x):=by
   cases h with
   | agg _ ha=>exact fun x hx=>ha _ (by simpa using List.mem_map_of_mem (f:=stripN (k+1) n) hx)
  rw [frzL_same a.toList s fun c hc s=>frz1_bel (hb c hc),Array.toArray_toList]
 next=>exact frz1_bel h
theorem frzT_bel {n:Nat} {s:St H} {c:Value} (hv:∀ a,c≠.tuple a) (h:Bel n (stripN 8 n c)):frzT n s c=(c,s):=by
 unfold frzT
 split
 next a=>exact absurd rfl (hv a)
 next=>exact frz2_bel h
theorem merge_one {X:Type} (p:X):mergeL [p]=[p]:=by
 simp [mergeL]
theorem cut_one {s s':St (FG G)} {v:Value} (h:Ext s s') (hv:∀ a,v≠.tuple a) (hb:Bel s.n (stripN 8 s.n v)):cutJ [none] s [(v,s')]=some [(stripN 8 s.n v,s)]:=by
 have hc:s.n≤s'.n∧(∀ i,i<s.n→(FG G).get s'.h i=(FG G).get s.h i∨BelO s.n ((FG G).get s'.h i))∧(([none]:List (Option Nat)).filter Option.isSome).length≤1:=⟨h.1,fun i hi=>.inl (h.2 i hi),by decide⟩
 have e:cutD [none] s v s'=some (stripN 8 s.n v,s):=by
  unfold cutD
  rw [frzT_bel hv hb]
  show cutD0 [none] s v s'=_
  unfold cutD0
  rw [if_pos hc]
  split
  · exact absurd rfl (hv _)
  · show cutC s s' (mrg s s') none v=_
    unfold cutC
    simp only
    rw [if_pos hb,mrg_same h]
 unfold cutJ
 simp only [List.map_cons,List.map_nil,e,Option.map_some,joinO,List.append_nil,merge_one]
theorem cut_call {A:Ann (FG G)} {n:Nat} {f:FuncId} {fn:Func} (hI:A.i f=none) (hc:A.cut f=some [none]) (hf:P.funcs[f]?=some fn) {args:List Value} {s:St (FG G)} {v:Value} (hv:∀ a,v≠.tuple a) (hb:Bel s.n (stripN 8 s.n v))
 (h:One (bodyD P (A.row f) (callD P A n) A.N f fn args s) fun v' s'=>v'=v∧Ext s s'):callD P A (n+1) (.fn f) args s=some [(stripN 8 s.n v,s)]:=by
 obtain ⟨v',s',e,rfl,hx⟩:=h
 rw [call_cut hI hc hf,e,bindS,cut_one hx hv hb]
end cut
end Go.FS
namespace Go.FS
variable {H:HeapI} {P:Program}
def Grow {α:Type} (lo z:Nat) (enc:α→List Value) (s:St H) (v:Value) (xs:List α):Prop :=
 (xs=[]∧(v=sl enc 2 []∨v=sl enc 1 []))∨∃ id,lo≤id∧id<s.n∧v=sl enc (id+3) xs∧H.get s.h id=some (.tok xs.length z)
theorem Grow.mono {α:Type} {lo z:Nat} {enc:α→List Value} {s s':St H} {v:Value} {xs:List α} (h:Grow lo z enc s v xs) (hn:s.n≤s'.n) (hg:∀ i,lo≤i→i<s.n→H.get s.h i=some (.tok xs.length z)→H.get s'.h i=H.get s.h i):Grow lo z enc s' v xs:=by
 rcases h with h | ⟨id,h1,h2,h3,h4⟩
 · exact .inl h
 · exact .inr ⟨id,h1,by omega,h3,by rw [hg id h1 h2 h4,h4]⟩
theorem Grow.new {α:Type} {lo z:Nat} {enc:α→List Value} {s:St H} {v:Value} {xs:List α} (h:Grow lo z enc s v xs) (o:DObj):Grow lo z enc (newD s o) v xs :=
 h.mono (by rw [newD_n]; omega) fun i _ hi _=>get_old (by omega)
theorem Grow.put {α:Type} {lo z:Nat} {enc:α→List Value} {s:St H} {v:Value} {xs:List α} (h:Grow lo z enc s v xs) {j:Nat} (o:DObj) (hj:H.get s.h j≠some (.tok xs.length z)):Grow lo z enc (putD s j o) v xs :=
 h.mono (Nat.le_refl _) fun i _ hi hg=>get_put_other (fun e=>hj (e ▸ hg))
def Sm (lo:Nat) (s s':St H):Prop:=s.n≤s'.n∧∀ j,j<lo→H.get s'.h j=H.get s.h j
theorem Sm.refl (lo:Nat) (s:St H):Sm lo s s:=⟨Nat.le_refl _,fun _ _=>rfl⟩
theorem Sm.trans {lo:Nat} {a b c:St H} (h:Sm lo a b) (k:Sm lo b c):Sm lo a c:=⟨Nat.le_trans h.1 k.1,fun j hj=>(k.2 j hj).trans (h.2 j hj)⟩
theorem Sm.new {lo:Nat} {a s:St H} (h:Sm lo a s) (hl:lo≤s.n) (o:DObj):Sm lo a (newD s o):=⟨by have:=h.1; rw [newD_n]; omega,fun i hi=>by rw [get_old (by omega),h.2 i hi]⟩
theorem Sm.put {lo:Nat} {a s:St H} (h:Sm lo a s) {j:Nat} (hj:lo≤j) (o:DObj):Sm lo a (putD s j o):=⟨h.1,fun i hi=>by rw [get_put_other (by omega),h.2 i hi]⟩
theorem Ext.sm {s s':St H} (h:Sm s.n s s'):Ext s s':=h
theorem Grow.app {α:Type} {lo:Nat} {enc:α→List Value} {s:St H} {t xt e e2:TypeId} {i:TypeInfo} {v:Value} {m2 z b:Nat} {xs ys:List α} {zs:List Value} (h:Grow lo z enc s v xs) (hlo:lo≤s.n) (hu:P.underlying t=some (.slice e)) (hx:P.underlying xt=some (.slice e2)) (hi:P.info? e=some i) (hz:zeroD P e=some zs) (hzl:zs.length=z) (hsz:i.size=z) (hby:i.bytes=b) (h0:0<z)
 (hl:∀ x,(enc x).length=z) (hb:(xs.length+ys.length)*b≤140737488355328) (hb2:xs.length+ys.length≤140737488355328) :
 ∃ v' s',appD P false s t xt v (sl enc m2 ys)=some (v',s')∧Grow lo z enc s' v' (xs++ys)∧Sm lo s s'∧(∀ j,j<s.n→H.get s.h j≠some (.tok xs.length z)→H.get s'.h j=H.get s.h j):=by
 subst hsz hby
 rcases h with ⟨rfl,h⟩ | ⟨id,h1,h2,rfl,h4⟩
 · have e:∀ m,m=1∨m=2→∃ v' s',appD P false s t xt (sl enc m []) (sl enc m2 ys)=some (v',s')∧Grow lo i.size enc s' v' ([]++ys)∧Sm lo s s'∧(∀ j,j<s.n→H.get s.h j≠some (.tok ([]:List α).length i.size)→H.get s'.h j=H.get s.h j):=fun m hm =>
    ⟨_,_,app_new hu hx hi hz hzl h0 hl hm hb hb2,.inr ⟨s.n,hlo,by rw [newD_n]; omega,rfl,by rw [get_new rfl]; simp⟩,(Sm.refl lo s).new hlo _,fun j hj _=>get_old (by omega)⟩
   rcases h with rfl | rfl
   · exact e 2 (.inr rfl)
   · exact e 1 (.inl rfl)
 · exact ⟨_,_,app_tok hu hx hi hz hzl h0 hl h4 hb hb2,.inr ⟨id,h1,h2,rfl,by rw [get_put_same,List.length_append]⟩,(Sm.refl lo s).put h1 _,fun j hj hne=>get_put_other (fun e=>hne (e ▸ h4))⟩
theorem strip_sl' {α:Type} {n:Nat} {enc:α→List Value} (hs:∀ x,(enc x).map (stripN 6 n)=enc x) (m:Nat) (xs:List α):stripN 8 n (sl enc m xs)=sl enc (bif Nat.blt m (n+3) then m else 0) xs:=by
 have e:∀ x:α,stripN 7 n (.agg (enc x).toArray)=.agg (enc x).toArray:=by
  intro x
  show Value.agg ((enc x).toArray.toList.map (stripN 6 n)).toArray=_
  have:(enc x).toArray.toList=enc x:=by simp
  rw [this,hs x]
 have e2:((xs.map enc).map fun e=>Value.agg e.toArray).map (stripN 7 n)=(xs.map enc).map fun e=>Value.agg e.toArray:=by
  rw [List.map_map,List.map_map,List.map_map]
  exact List.map_congr_left fun x _=>e x
 have e3:((xs.map enc).map fun e=>Value.agg e.toArray).toArray.toList=(xs.map enc).map fun e=>Value.agg e.toArray:=by simp
 unfold sl fz fzV
 conv=>lhs; unfold stripN
 simp only [e3]
 cases xs with
 | nil=>rfl
 | cons x xs =>
  simp only [List.map_cons] at e2 ⊢
  show fzV _ (List.toArray ((stripN 7 n (.agg (enc x).toArray))::_))=_
  rw [List.cons.injEq] at e2
  rw [e2.1,e2.2]; rfl
theorem grow_cut {α:Type} {lo z n:Nat} {enc:α→List Value} {s:St H} {v:Value} {xs:List α} (h:Grow lo z enc s v xs) (hlo:n≤lo) (hs:∀ x,(enc x).map (stripN 6 n)=enc x):∃ m,stripN 8 n v=sl enc m xs∧(m=0∨m=1∨m=2)∧(xs≠[]→m=0):=by
 have key:=fun m xs=>strip_sl' hs m xs
 rcases h with ⟨rfl,rfl | rfl⟩ | ⟨id,h1,h2,rfl,_⟩
 · refine ⟨2,?_,.inr (.inr rfl),fun h=>absurd rfl h⟩
   rw [key]
   have:Nat.blt 2 (n+3)=true:=by rw [blt_dec,decide_eq_true]; omega
   rw [this]; rfl
 · refine ⟨1,?_,.inr (.inl rfl),fun h=>absurd rfl h⟩
   rw [key]
   have:Nat.blt 1 (n+3)=true:=by rw [blt_dec,decide_eq_true]; omega
   rw [this]; rfl
 · refine ⟨0,?_,.inl rfl,fun _=>rfl⟩
   rw [key]
   have:Nat.blt (id+3) (n+3)=false:=by rw [blt_dec,decide_eq_false]; omega
   rw [this]; rfl
theorem bel_sl {α:Type} {n m:Nat} {enc:α→List Value} {xs:List α} (hm:m<n+3) (h:∀ x,∀ v∈enc x,Bel n v):Bel n (sl enc m xs):=by
 unfold sl fz
 refine .fz m _ hm fun v hv=>?_
 simp only [List.map_map] at hv
 obtain ⟨x,_,rfl⟩:=List.mem_map.1 hv
 exact .agg _ fun w hw=>h x w (by simpa using hw)
end Go.FS
namespace Go.FS
section cut2
variable {G:Nat→Option (Array Value)}
theorem mrg_fn (s s':St (FG G)):mrg s s'={ h:=fun i=>if i<s.n then s'.h i else s.h i,n:=s.n }:=by
 unfold mrg
 congr 1
 funext i
 exact mrgH_get (H:=FG G) s.n s'.h s.h i
theorem put_fn (s:St (FG G)) (m:Nat) (o:DObj):putD s m o={ h:=fun i=>if i=m then some o else s.h i,n:=s.n }:=rfl
theorem mrg_put {s s':St (FG G)} {m:Nat} {o:DObj} (hm:m<s.n) (hn:s.n≤s'.n) (h:∀ j,j<s.n→j≠m→(FG G).get s'.h j=(FG G).get s.h j) (ho:(FG G).get s'.h m=some o):mrg s s'=putD s m o:=by
 rw [mrg_fn,put_fn]
 congr 1
 funext i
 by_cases hi:i=m
 · subst hi; rw [if_pos hm,if_pos rfl]; exact ho
 · rw [if_neg hi]
   by_cases hl:i<s.n
   · rw [if_pos hl]; exact h i hl hi
   · rw [if_neg hl]
theorem put_same {s:St (FG G)} {m:Nat} {o:DObj} (h:(FG G).get s.h m=some o):putD s m o=s:=by
 rw [put_fn]
 cases s with
 | mk hh n =>
  congr 1
  funext i
  by_cases hi:i=m
  · subst hi; rw [if_pos rfl]; exact h.symm
  · rw [if_neg hi]
theorem cut_at {s s':St (FG G)} {v:Value} (h:∀ i,i<s.n→(FG G).get s'.h i=(FG G).get s.h i∨BelO s.n ((FG G).get s'.h i)) (hn:s.n≤s'.n) (hv:∀ a,v≠.tuple a) (hb:Bel s.n (stripN 8 s.n v)):cutJ [none] s [(v,s')]=some [(stripN 8 s.n v,mrg s s')]:=by
 have hc:s.n≤s'.n∧(∀ i,i<s.n→(FG G).get s'.h i=(FG G).get s.h i∨BelO s.n ((FG G).get s'.h i))∧(([none]:List (Option Nat)).filter Option.isSome).length≤1:=⟨hn,h,by decide⟩
 have e:cutD [none] s v s'=some (stripN 8 s.n v,mrg s s'):=by
  unfold cutD
  rw [frzT_bel hv hb]
  show cutD0 [none] s v s'=_
  unfold cutD0
  rw [if_pos hc]
  split
  · exact absurd rfl (hv _)
  · show cutC s s' (mrg s s') none v=_
    unfold cutC
    simp only
    rw [if_pos hb]
 unfold cutJ
 simp only [List.map_cons,List.map_nil,e,Option.map_some,joinO,List.append_nil,merge_one]
end cut2
end Go.FS
namespace Go.FS
variable {H:HeapI} {P:Program}
def delD (s:St H) (l:Nat):St H:={ s with h:=H.put s.h l none }
theorem delD_n (s:St H) (l:Nat):(delD s l).n=s.n:=rfl
theorem delD_get (s:St H) (l i:Nat):H.get (delD s l).h i=if i=l then none else H.get s.h i:=by simp only [delD,H.get_put]
theorem get_del {s:St H} {i l:Nat} (h:i≠l):H.get (delD s l).h i=H.get s.h i:=by rw [delD_get,if_neg h]
theorem loop_of {s:St H} {l st:Nat} {pe:Option Code} {fn:FuncId} {t:List Value} {ps:List Tmp} {a b:Code} (h:H.get s.h l=some (.loop st pe fn t ps a b)):loopD s l=some (st,pe,fn,t,ps,a,b):=by unfold loopD; rw [h]
theorem setLoop_of {s:St H} {l st st':Nat} {pe pe':Option Code} {fn:FuncId} {t:List Value} {ps:List Tmp} {a b:Code} (h:H.get s.h l=some (.loop st pe fn t ps a b)):setLoopD s l st' pe'=some (putD s l (.loop st' pe' fn t ps a b)):=by
 unfold setLoopD; rw [loop_of h]; rfl
theorem begin_of {s:St H} {l:Nat} {pe:Option Code} {fn:FuncId} {t:List Value} {ps:List Tmp} {a b:Code} (h:H.get s.h l=some (.loop 0 pe fn t ps a b)):beginD s l=some (putD s l (.loop 1 pe fn t ps a b)):=by
 unfold beginD; rw [loop_of h,bindS]
 show (bif Nat.beq 0 0 then setLoopD s l 1 pe else none)=_
 rw [beq_yes,condT,setLoop_of h]
theorem endLoop_of {s:St H} {l st:Nat} {pe:Option Code} {fn:FuncId} {t:List Value} {ps:List Tmp} {a b:Code} (h:H.get s.h l=some (.loop st pe fn t ps a b)) (hs:st≠1):endLoopD s l=some (pe,delD s l):=by
 unfold endLoopD; rw [loop_of h,bindS]
 show (bif Nat.beq st 1 then none else some (pe,delD s l))=_
 rw [beq_no hs,condF]
section
variable {X:Type} {C:OracleJ H} {fn g:FuncId} {f:Value} {t args:List Value} {ps:List Tmp} {a b:Code} {s s2:St H} {k0 kr:St H→Option (List X)} {kx:Nat→St H→Option (List X)} {v:Value} {st:Nat} {fn':FuncId} {t':List Value} {ps':List Tmp} {a' b':Code}
theorem rng_eq (ht:tgtD f [.func (.yield s.n) #[] #[]]=some (.fn g,args)) (hb:bodied P g=true) (hC:C (.fn g) args (newD s (.loop 0 none fn t ps a b))=some [(v,s2)]) :
 rngO P (dOps P) C fn f t ps a b s k0 kr kx=(endLoopD s2 s.n).bind fun q=>match q.1 with
  | none=>k0 q.2
  | some .ret=>kr q.2
  | some (.exit id)=>kx id q.2
  | some _=>none:=by
 unfold rngO
 rw [o_tgt,ht,bindS]
 show (bif !bodied P g then none else _)=_
 rw [hb,Bool.not_true,condF,hC,bindS,many1]
 rfl
theorem rng_none (ht:tgtD f [.func (.yield s.n) #[] #[]]=some (.fn g,args)) (hb:bodied P g=true) (hC:C (.fn g) args (newD s (.loop 0 none fn t ps a b))=some [(v,s2)]) (hg:H.get s2.h s.n=some (.loop st none fn' t' ps' a' b')) (hs:st≠1) :
 rngO P (dOps P) C fn f t ps a b s k0 kr kx=k0 (delD s2 s.n):=by rw [rng_eq ht hb hC,endLoop_of hg hs,bindS]
theorem rng_ret (ht:tgtD f [.func (.yield s.n) #[] #[]]=some (.fn g,args)) (hb:bodied P g=true) (hC:C (.fn g) args (newD s (.loop 0 none fn t ps a b))=some [(v,s2)]) (hg:H.get s2.h s.n=some (.loop st (some .ret) fn' t' ps' a' b')) (hs:st≠1) :
 rngO P (dOps P) C fn f t ps a b s k0 kr kx=kr (delD s2 s.n):=by rw [rng_eq ht hb hC,endLoop_of hg hs,bindS]
end
theorem tgt_yld (l:Nat) (args:List Value):tgtD (.func (.yield l) #[] #[]) args=some (.yld l,args):=by simp [tgtD]
end Go.FS
namespace Go.FS
variable {H:HeapI}
theorem list_one {σ α:Type} {g:(σ→St H→Option (List (Value×St H)))→(Nat→σ→St H→Option (List (Value×St H)))→(σ→St H→Option (List (Value×St H)))→σ→St H→Option (List (Value×St H))} {kx:Nat→σ→St H→Option (List (Value×St H))} {kr:σ→St H→Option (List (Value×St H))} (xs:List α) (Inv:Nat→σ→St H→Prop) {Q:Value→St H→Prop} {m:Nat} {x:σ} {s:St H}
 (hstep:∀ (i:Nat) (_:i<xs.length) x s,Inv i x s→∀ nx:σ→St H→Option (List (Value×St H)),(∀ x' s',Inv (i+1) x' s'→One (nx x' s') Q)→One (g nx kx kr x s) Q)
 (hend:∀ x s,Inv xs.length x s→∀ nx:σ→St H→Option (List (Value×St H)),One (g nx kx kr x s) Q) (h0:Inv 0 x s) (hm:xs.length<m):One (iterS g kx kr m x s) Q :=
 list_rule xs Inv (fun r=>One r Q) hstep hend h0 hm
end Go.FS
namespace Go.FS
variable {H:HeapI} {P:Program}
theorem slc_sl {α:Type} {enc:α→List Value} {s:St H} {t e:TypeId} {z m j:Nat} {k:IntKind} {xs:List α} (hu:P.underlying t=some (.slice e)) (hz:sizeD P e=some z) (hl:∀ x,(enc x).length=z) (hj:j≤xs.length) :
 slcD P s t (sl enc m xs) none (some (.int k (j:Int))) none=some (sl enc (bif Nat.beq m 2 then 2 else 0) (xs.take j)):=by
 have hf:fzOk z ((xs.map enc).map fun e=>Value.agg e.toArray).toArray=true:=fzOk_fz fun e he=>by obtain ⟨x,_,rfl⟩:=List.mem_map.1 he; exact hl x
 have h0:decide ((0:Int)≤(j:Int))=true:=by simp
 have e1:sliceD P t (sl enc m xs) none (some (.int k (j:Int))) none=some (sl enc (bif Nat.beq m 2 then 2 else 0) (xs.take j)):=by
  unfold sliceD
  simp only [optInt,h0,condT,bindS,Int.toNat_natCast,hu]
  unfold sl
  simp only [fz_list,hz,bindS,hf,fz_size,List.length_map,Option.getD_none,Option.getD_some,Nat.ble_eq_true_of_le (Nat.zero_le j),Nat.ble_eq_true_of_le hj,Nat.ble_eq_true_of_le (Nat.le_refl xs.length),Option.isSome_some,Bool.true_or,Bool.and_self,condT,List.drop_zero]
  cases Nat.beq m 2 <;> simp [fzV]
 unfold slcD
 rw [e1]; rfl
end Go.FS
namespace Go.FS
end Go.FS
namespace Go.FS
variable {P:Program} {H:HeapI}
theorem slc_from {α:Type} {enc:α→List Value} {s:St H} {t e:TypeId} {z m j:Nat} {k:IntKind} {xs:List α} (hu:P.underlying t=some (.slice e)) (hz:sizeD P e=some z) (hl:∀ x,(enc x).length=z) (hj:j≤xs.length) :
 ∃ m',slcD P s t (sl enc m xs) (some (.int k (j:Int))) none none=some (sl enc m' (xs.drop j)):=by
 have hf:fzOk z ((xs.map enc).map fun e=>Value.agg e.toArray).toArray=true:=fzOk_fz fun e he=>by obtain ⟨x,_,rfl⟩:=List.mem_map.1 he; exact hl x
 have h0:decide ((0:Int)≤(j:Int))=true:=by simp
 refine ⟨bif Nat.beq m 2 then 2 else bif Nat.beq m 1 then 1 else 0,?_⟩
 have e1:sliceD P t (sl enc m xs) (some (.int k (j:Int))) none none=some (sl enc (bif Nat.beq m 2 then 2 else bif Nat.beq m 1 then 1 else 0) (xs.drop j)):=by
  unfold sliceD
  simp only [optInt,h0,condT,bindS,Int.toNat_natCast,hu]
  unfold sl
  simp only [fz_list,hz,bindS,hf,fz_size,List.length_map,Option.getD_none,Option.getD_some,Nat.ble_eq_true_of_le hj,Nat.ble_eq_true_of_le (Nat.le_refl xs.length),Option.isNone_none,Bool.or_true,Bool.and_self,condT]
  cases Nat.beq m 2 <;> simp [fzV] <;> rw [List.take_of_length_le (by simp)]
 unfold slcD
 rw [e1]; rfl
end Go.FS
