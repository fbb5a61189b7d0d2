import Derived.Test.YtmhmbmogodofeaaFk
namespace Go.FS
open Go.RowKit
variable {P:Program} {md:Bool} {H:HeapI} {R:Type}
def edgeBits (acc:Nat→Nat) (o:Oper):Nat:=o.after.foldl (fun s e=>if Region.binds .any e then s ||| 2^e.on ||| acc e.on else s) 0
theorem getD_push (a:Array Nat) (x i:Nat):(a.push x).getD i 0=if i=a.size then x else a.getD i 0:=by
 rw [Array.getD_eq_getD_getElem?,Array.getElem?_push,Array.getD_eq_getD_getElem?]
 split <;> rfl
theorem getD_out (a:Array Nat) (i:Nat) (h:a.size≤i):a.getD i 0=0:=by
 rw [Array.getD_eq_getD_getElem?,Array.getElem?_eq_none h]; rfl
def beforeF (acc:Array Nat) (o:Oper):Array Nat:=acc.push (edgeBits (fun k=>acc.getD k 0) o)
theorem before_list:∀ (l:List Oper) (acc:Array Nat) (i:Nat),i<acc.size→(l.foldl beforeF acc).getD i 0=acc.getD i 0
 | [],_,_,_=>rfl
 | o::l,acc,i,hi=>by
  simp only [List.foldl_cons]
  rw [before_list l _ i (by simp [beforeF]; omega)]
  simp only [beforeF,getD_push]
  rw [if_neg (by omega)]
theorem before_at (l:List Oper):∀ (acc:Array Nat) (i:Nat) (o:Oper),l[i]?=some o →
 (l.foldl beforeF acc).getD (acc.size+i) 0=edgeBits (fun k=>if k<acc.size+i then (l.foldl beforeF acc).getD k 0 else 0) o:=by
 induction l with
 | nil=>intro acc i o h; simp at h
 | cons o' l ih =>
  intro acc i o h
  rw [List.foldl_cons]
  cases i with
  | zero =>
   have h:o'=o:=by simpa using h
   subst h
   have e0:(beforeF acc o').getD acc.size 0=edgeBits (fun k=>acc.getD k 0) o':=by
    simp only [beforeF,getD_push]; rw [if_pos trivial]
   rw [Nat.add_zero,before_list l _ acc.size (by simp [beforeF]),e0]
   have:(fun k=>acc.getD k 0)=fun k=>if k<acc.size then (l.foldl beforeF (beforeF acc o')).getD k 0 else 0:=by
    funext k
    by_cases hk:k<acc.size
    · rw [if_pos hk,before_list l _ k (by simp [beforeF]; omega)]
      simp only [beforeF,getD_push]; rw [if_neg (by omega)]
    · rw [if_neg hk,getD_out _ _ (Nat.le_of_not_lt hk)]
   rw [this]
  | succ i =>
   have:=ih (beforeF acc o') i o (by simpa using h)
   have hs:(beforeF acc o').size=acc.size+1:=by simp [beforeF]
   rw [hs] at this
   rw [show acc.size+(i+1)=acc.size+1+i from by omega]
   exact this
theorem before_eq (ops:Array Oper) (i:Nat) (o:Oper) (h:ops[i]?=some o):(Region.before ops).getD i 0=edgeBits (fun k=>if k<i then (Region.before ops).getD k 0 else 0) o:=by
 have hb:Region.before ops=ops.toList.foldl beforeF #[]:=by
  unfold Region.before
  rw [← Array.foldl_toList]
  rfl
 have:=before_at ops.toList #[] i o (by simpa using h)
 simp only [List.size_toArray,List.length_nil,Nat.zero_add] at this
 rw [hb]; exact this
theorem edgeBits_test (acc:Nat→Nat) (o:Oper) (k:Nat) (h:(edgeBits acc o).testBit k=true):∃ e∈o.after.toList,Region.binds .any e=true∧(k=e.on∨(acc e.on).testBit k=true):=by
 unfold edgeBits at h
 rw [← Array.foldl_toList] at h
 have key:∀ (l:List Edge) (s:Nat),(l.foldl (fun s e=>if Region.binds .any e then s ||| 2^e.on ||| acc e.on else s) s).testBit k=true→s.testBit k=true∨∃ e∈l,Region.binds .any e=true∧(k=e.on∨(acc e.on).testBit k=true):=by
  intro l
  induction l with
  | nil=>intro s h; exact .inl h
  | cons e l ih =>
   intro s h
   simp only [List.foldl_cons] at h
   rcases ih _ h with h | ⟨e2,h1,h2⟩
   · by_cases hb:Region.binds .any e=true
     · rw [if_pos hb] at h
       simp only [Nat.testBit_or,Bool.or_eq_true] at h
       rcases h with (h | h) | h
       · exact .inl h
       · rw [Nat.testBit_two_pow] at h
         exact .inr ⟨e,List.mem_cons_self ..,hb,.inl (by simpa using (by simpa using h:e.on=k).symm)⟩
       · exact .inr ⟨e,List.mem_cons_self ..,hb,.inr h⟩
     · rw [if_neg hb] at h; exact .inl h
   · exact .inr ⟨e2,List.mem_cons_of_mem _ h1,h2⟩
 rcases key _ _ h with h | h
 · simp at h
 · exact h
def ahead (ops:Array Oper) (k i:Nat):Prop:=((Region.before ops).getD i 0).testBit k=true
theorem ahead_edge {ops:Array Oper} {k i:Nat} {o:Oper} (ho:ops[i]?=some o) (h:ahead ops k i):∃ e∈o.after.toList,Region.binds .any e=true∧(k=e.on∨(e.on<i∧ahead ops k e.on)):=by
 unfold ahead at h
 rw [before_eq ops i o ho] at h
 obtain ⟨e,h1,h2,h3⟩:=edgeBits_test _ _ _ h
 refine ⟨e,h1,h2,h3.imp id fun h3=>?_⟩
 by_cases hlt:e.on<i
 · rw [if_pos hlt] at h3; exact ⟨hlt,h3⟩
 · rw [if_neg hlt] at h3; simp at h3
def EdgesOk (ops:Array Oper):Prop:=∀ i o,ops[i]?=some o→∀ e∈o.after.toList,Region.binds .any e=true→e.on<i
theorem ahead_lt {ops:Array Oper} (hE:EdgesOk ops):∀ {i k:Nat},i<ops.size→ahead ops k i→k<i:=by
 intro i
 induction i using Nat.strongRecOn with
 | _ i ih =>
  intro k hi h
  obtain ⟨e,h1,h2,h3⟩:=ahead_edge (o:=ops[i]) (by simp [hi]) h
  have he:=hE i _ (by simp [hi]) e h1 h2
  rcases h3 with rfl | ⟨_,h3⟩
  · exact he
  · exact Nat.lt_trans (ih e.on he (by omega) h3) he
theorem closed_ahead {ops:Array Oper} (hE:EdgesOk ops) {D:Nat→Prop} (hD:∀ i o,D i→ops[i]?=some o→∀ e∈o.after.toList,Region.binds .any e=true→D e.on):∀ {i k:Nat},i<ops.size→D i→ahead ops k i→D k:=by
 intro i
 induction i using Nat.strongRecOn with
 | _ i ih =>
  intro k hi hd h
  obtain ⟨e,h1,h2,h3⟩:=ahead_edge (o:=ops[i]) (by simp [hi]) h
  have he:=hE i _ (by simp [hi]) e h1 h2
  have hde:=hD i _ hd (by simp [hi]) e h1 h2
  rcases h3 with rfl | ⟨_,h3⟩
  · exact hde
  · exact ih e.on he (by omega) hde h3
inductive Sched (ops:Array Oper):List Nat→List Nat→Prop
 | nil (done:List Nat) (h:∀ i,i<ops.size→i∈done):Sched ops done []
 | cons (done:List Nat) (i:Nat) (o:Oper) (rest:List Nat) (ho:ops[i]?=some o) (hi:i∉done) (he:∀ e∈o.after.toList,Region.binds .any e=true→e.on∈done) (h:Sched ops (i::done) rest):Sched ops done (i::rest)
theorem countP_lt {α:Type} {p q:α→Bool}:∀ {l:List α},(∀ x∈l,q x=true→p x=true)→(∃ x∈l,p x=true∧q x=false)→l.countP q<l.countP p
 | [],_,⟨x,hx,_⟩=>by cases hx
 | a::l,h,⟨x,hx,hp,hq⟩=>by
  have hle:l.countP q≤l.countP p:=List.countP_mono_left fun y hy=>h y (List.mem_cons_of_mem _ hy)
  have ha:=h a (List.mem_cons_self ..)
  rw [List.countP_cons,List.countP_cons]
  cases hx with
  | head=>rw [hp,hq]; simp; omega
  | tail _ hx =>
   have:=countP_lt (fun y hy=>h y (List.mem_cons_of_mem _ hy)) ⟨x,hx,hp,hq⟩
   cases h1:q a with
   | false=>simp; omega
   | true=>rw [ha h1]; simp; omega
theorem linearise_go {ops:Array Oper} (hE:EdgesOk ops):∀ (fuel t:Nat) (listed:Array Bool) (acc:List Nat),listed.size=ops.size→(∀ i,i<ops.size→(listed.getD i true=true↔i∈acc)) →
 (List.range ops.size).countP (fun i=>!listed.getD i true)≤fuel→∃ todo,Region.linearise.go .any ops fuel t listed acc=acc.reverse++todo∧Sched ops acc todo:=by
 intro fuel
 induction fuel with
 | zero =>
  intro t listed acc hs hl hc
  refine ⟨[],by simp [Region.linearise.go],.nil _ fun i hi=>(hl i hi).1 ?_⟩
  have h0:(List.range ops.size).countP (fun i=>!listed.getD i true)=0:=by omega
  have:=List.countP_eq_zero.1 h0 i (by simp [hi])
  simpa using this
 | succ fuel ih =>
  intro t listed acc hs hl hc
  simp only [Region.linearise.go]
  generalize hrs:(List.range ops.size).filter (fun i=>!listed.getD i true&&((ops[i]?).map (·.after.all fun e=>!Region.binds .any e||listed.getD e.on false)).getD false)=rs
  cases hpick:rs[t % rs.length]? with
  | none =>
   refine ⟨[],by simp,.nil _ fun i hi=>?_⟩
   have hrs0:rs=[]:=by
    cases rs with
    | nil=>rfl
    | cons a l =>
     have:=List.getElem?_eq_none_iff.1 hpick
     have h2:=Nat.mod_lt t (show 0<(a::l).length by simp)
     omega
   have key:∀ i,i<ops.size→i∈acc:=by
    intro i
    induction i using Nat.strongRecOn with
    | _ i ihi =>
     intro hi
     refine Classical.byContradiction fun hn=>?_
     have:i∈rs:=by
      rw [← hrs]
      simp only [List.mem_filter,List.mem_range,Bool.and_eq_true]
      refine ⟨hi,?_,?_⟩
      · have:=mt (hl i hi).1 hn
        simpa using this
      · have ho:ops[i]?=some ops[i]:=by simp [hi]
        rw [ho]
        simp only [Option.map_some,Option.getD_some]
        rw [← Array.all_toList]
        refine List.all_eq_true.2 fun e he=>?_
        by_cases hb:Region.binds .any e=true
        · have hlt:=hE i _ ho e he hb
          have hin:=ihi e.on hlt (by omega)
          have h3:=(hl e.on (by omega)).2 hin
          have h4:listed.getD e.on false=true:=by
           have hsz:e.on<listed.size:=by omega
           rw [Array.getD_eq_getD_getElem?,Array.getElem?_eq_getElem hsz] at h3 ⊢
           exact h3
          rw [h4]; simp
        · simp [hb]
     rw [hrs0] at this
     cases this
   exact key i hi
  | some i =>
   have hmem:i∈rs:=List.mem_of_getElem? hpick
   rw [← hrs] at hmem
   simp only [List.mem_filter,List.mem_range,Bool.and_eq_true] at hmem
   obtain ⟨hi,hni,hal⟩:=hmem
   have ho:ops[i]?=some ops[i]:=by simp [hi]
   have hnl:listed.getD i true=false:=by simpa using hni
   have hacc:i∉acc:=fun h=>by
    have:=(hl i hi).2 h
    rw [hnl] at this; cases this
   have hget:∀ k,k<ops.size→(listed.setIfInBounds i true).getD k true=if k=i then true else listed.getD k true:=fun k hk=>by
    rw [Array.getD_eq_getD_getElem?,Array.getElem?_setIfInBounds,Array.getD_eq_getD_getElem?]
    by_cases e:i=k
    · subst e; simp [hs,hi]
    · rw [if_neg e,if_neg (fun h=>e h.symm)]
   obtain ⟨todo,h1,h2⟩:=ih (t / rs.length) (listed.setIfInBounds i true) (i::acc) (by simpa using hs) (fun k hk=>by
    rw [hget k hk]
    by_cases e:k=i
    · subst e; simp
    · rw [if_neg e,hl k hk]; simp [e]) (by
    have:(List.range ops.size).countP (fun k=>!(listed.setIfInBounds i true).getD k true)<(List.range ops.size).countP (fun k=>!listed.getD k true):=by
     refine countP_lt (fun k hk hq=>?_) ⟨i,by simp [hi],by rw [hnl]; rfl,by rw [hget i hi,if_pos rfl]; rfl⟩
     rw [hget k (by simpa using hk)] at hq
     by_cases e:k=i
     · rw [if_pos e] at hq; cases hq
     · rw [if_neg e] at hq; exact hq
    omega)
   refine ⟨i::todo,by show Region.linearise.go .any ops fuel _ _ _=_; rw [h1]; simp,.cons acc i _ todo ho hacc (fun e he hb=>?_) h2⟩
   rw [ho] at hal
   simp only [Option.map_some,Option.getD_some] at hal
   rw [← Array.all_toList] at hal
   have:=List.all_eq_true.1 hal e he
   rw [hb] at this
   simp only [Bool.not_true,Bool.false_or] at this
   have hlt:=hE i _ ho e he hb
   refine (hl e.on (by omega)).1 ?_
   have hsz:e.on<listed.size:=by omega
   rw [Array.getD_eq_getD_getElem?,Array.getElem?_eq_getElem hsz] at this ⊢
   exact this
theorem schedule_ok {ops:Array Oper} (hE:EdgesOk ops) (t:Nat):Sched ops [] (Region.schedule true ops t):=by
 have:Region.schedule true ops t=Region.linearise .any ops t:=by simp [Region.schedule]
 rw [this]
 unfold Region.linearise
 obtain ⟨todo,h1,h2⟩:=linearise_go hE ops.size t (Array.replicate ops.size false) [] (by simp) (fun i hi=>by simp [Array.getD_eq_getD_getElem?,hi]) (by
  have:=List.countP_le_length (p:=fun i=>!(Array.replicate ops.size false).getD i true) (l:=List.range ops.size)
  simpa using this)
 rw [h1]; simpa using h2
theorem opK_yields {C:Oracle H} {o:Oper} {t:List Value} {s:St H} {k:Value→St H→Option R} {r:R} (h:opK P md C o t s k=some r) :
 ∃ v s',k v s'=some r∧∀ (R':Type) (k':Value→St H→Option R'),opK P md C o t s k'=k' v s':=by
 obtain ⟨dst,op,ty,pos,after,guard⟩:=o
 have val:∀ {m:Option Value},(m.bind fun v=>k v s)=some r→∃ v s',k v s'=some r∧∀ (R':Type) (k':Value→St H→Option R'),(m.bind fun v=>k' v s)=k' v s':=fun {m} h=>by
  obtain ⟨v,hv,h⟩:=bsome h
  exact ⟨v,s,h,fun R' k'=>by rw [hv]; rfl⟩
 have sta:∀ {m:Option (Value×St H)},(m.bind fun p=>k p.1 p.2)=some r→∃ v s',k v s'=some r∧∀ (R':Type) (k':Value→St H→Option R'),(m.bind fun p=>k' p.1 p.2)=k' v s':=fun {m} h=>by
  obtain ⟨v,hv,h⟩:=bsome h
  exact ⟨v.1,v.2,h,fun R' k'=>by rw [hv]; rfl⟩
 cases op with
 | move x=>exact ⟨_,s,h,fun _ _=>rfl⟩
 | assign x=>exact ⟨_,s,h,fun _ _=>rfl⟩
 | pick c x y =>
  obtain ⟨b,hb,h⟩:=bsome h
  cases b with
  | true=>exact ⟨_,s,h,fun R' k'=>by show (boolD (evalO t c)).bind _=_; rw [hb]; rfl⟩
  | false=>exact ⟨_,s,h,fun R' k'=>by show (boolD (evalO t c)).bind _=_; rw [hb]; rfl⟩
 | alloc e=>exact sta h
 | box e x=>exact sta h
 | build e parts=>exact val h
 | buildSlice e len parts=>exact sta h
 | load e x=>exact val h
 | store e x y =>
  obtain ⟨s',hs,h⟩:=bsome h
  exact ⟨_,s',h,fun R' k'=>by show (storeD P s e (evalO t x) (evalO t y)).bind _=_; rw [hs]; rfl⟩
 | nilCheck x=>exact val h
 | binOp op e x y yt=>exact val h
 | unOp op e x=>exact val h
 | convert c d x=>exact sta h
 | makeFunc fn first cap =>
  cases fn with
  | func f=>exact ⟨_,s,h,fun _ _=>rfl⟩
  | _=>cases h
 | makeSlice e l c=>exact sta h
 | slice e x l hh m=>exact val h
 | fieldAddr e x f=>exact val h
 | field e x f=>exact val h
 | indexAddr e x i=>exact val h
 | index e x i=>exact val h
 | extract x i=>exact val h
 | lookup e x i ok=>exact val h
 | entry it=>exact val h
 | makeMap e x=>exact sta h
 | mapUpdate e m i x =>
  obtain ⟨s',hs,h⟩:=bsome h
  exact ⟨_,s',h,fun R' k'=>by show (mapUpdateD P s e (evalO t m) (evalO t i) (evalO t x)).bind _=_; rw [hs]; rfl⟩
 | insert e m i x =>
  obtain ⟨s',hs,h⟩:=bsome h
  exact ⟨_,s',h,fun R' k'=>by show (mapUpdateD P s e (evalO t m) (evalO t i) (evalO t x)).bind _=_; rw [hs]; rfl⟩
 | mapEntry e m i=>exact sta h
 | entryStore e m i x =>
  obtain ⟨s',hs,h⟩:=bsome h
  exact ⟨_,s',h,fun R' k'=>by show (entryStoreD s e (evalO t m) (evalO t i) (evalO t x)).bind _=_; rw [hs]; rfl⟩
 | range e x=>exact sta h
 | next it isS=>exact sta h
 | call c =>
  obtain ⟨callee,args,ats⟩:=c
  cases callee with
  | value f =>
   have h':(tgtD (evalO t f) (args.toList.map (evalO t))).bind (fun g=>(C g.1 g.2 s).bind fun p=>k p.1 p.2)=some r:=h
   obtain ⟨g,hg,h1⟩:=bsome h'
   obtain ⟨v,s',h2,h3⟩:=sta h1
   exact ⟨v,s',h2,fun R' k'=>by
    show (tgtD (evalO t f) (args.toList.map (evalO t))).bind _=_
    rw [hg]; exact h3 R' k'⟩
  | invoke x m=>cases h
  | builtin b =>
   simp only [opK] at h ⊢
   generalize args.toList=al at h ⊢
   generalize ats.toList=tl at h ⊢
   cases b with
   | len=>match al,tl,h with | [x],[e],h=>exact val h
   | cap=>match al,tl,h with | [x],[e],h=>exact val h
   | append=>match al,tl,h with | [x,y],[e,f],h=>exact sta h
   | copy=>match al,tl,h with | [x,y],e::tl,h=>exact sta h
   | clear=>match al,tl,h with
    | [x],[e],h =>
     obtain ⟨s',hs,h⟩:=bsome h
     exact ⟨_,s',h,fun R' k'=>by show (clearD P s e (evalO t x)).bind _=_; rw [hs]; rfl⟩
   | delete=>match al,tl,h with
    | [x,y],e::tl,h =>
     obtain ⟨s',hs,h⟩:=bsome h
     exact ⟨_,s',h,fun R' k'=>by show (deleteD P s e (evalO t x) (evalO t y)).bind _=_; rw [hs]; rfl⟩
   | min=>match al,tl,h with | x::l,tl,h=>exact val h
   | max=>match al,tl,h with | x::l,tl,h=>exact val h
   | _=>cases h
 | _=>cases h
theorem map_congr {t t':List Value} {l:List Operand} (h:∀ x∈l,evalO t x=evalO t' x):l.map (evalO t)=l.map (evalO t'):=List.map_congr_left h
theorem omap_congr {t t':List Value} {l:Option Operand} (h:∀ x∈l.toList,evalO t x=evalO t' x):l.map (evalO t)=l.map (evalO t'):=by
 cases l with
 | none=>rfl
 | some x=>simp [h x (by simp)]
theorem opK_congr {C:Oracle H} {o:Oper} {t t':List Value} {s:St H} {k:Value→St H→Option R} (h:∀ x∈o.op.operands.toList,evalO t x=evalO t' x):opK P md C o t s k=opK P md C o t' s k:=by
 obtain ⟨dst,op,ty,pos,after,guard⟩:=o
 cases op with
 | move x=>simp only [opK]; rw [h x (by simp [Op.operands])]
 | assign x=>simp only [opK]; rw [h x (by simp [Op.operands])]
 | pick c x y=>simp only [opK]; rw [h c (by simp [Op.operands]),h x (by simp [Op.operands]),h y (by simp [Op.operands])]
 | alloc e=>rfl
 | box e x=>simp only [opK]; rw [h x (by simp [Op.operands])]
 | build e parts =>
  simp only [opK]
  have:(parts.toList.map fun x=>(x.1,evalO t x.2))=parts.toList.map fun x=>(x.1,evalO t' x.2):=List.map_congr_left fun x hx=>by
   rw [h x.2 (by simp only [Op.operands,List.mem_map]; exact ⟨x,hx,rfl⟩)]
  rw [this]
 | buildSlice e len parts =>
  simp only [opK]
  have:(parts.toList.map fun x=>(x.1,evalO t x.2))=parts.toList.map fun x=>(x.1,evalO t' x.2):=List.map_congr_left fun x hx=>by
   rw [h x.2 (by simp only [Op.operands,List.mem_map]; exact ⟨x,hx,rfl⟩)]
  rw [this]
 | load e x=>simp only [opK]; rw [h x (by simp [Op.operands])]
 | store e x y=>simp only [opK]; rw [h x (by simp [Op.operands]),h y (by simp [Op.operands])]
 | nilCheck x=>simp only [opK]; rw [h x (by simp [Op.operands])]
 | binOp op e x y yt=>simp only [opK]; rw [h x (by simp [Op.operands]),h y (by simp [Op.operands])]
 | unOp op e x=>simp only [opK]; rw [h x (by simp [Op.operands])]
 | convert c d x=>simp only [opK]; rw [h x (by simp [Op.operands])]
 | makeFunc fn first cap =>
  cases fn with
  | func f =>
   simp only [opK]
   have e1:first.map (evalO t)=first.map (evalO t'):=by
    apply Array.toList_inj.1
    rw [Array.toList_map,Array.toList_map]
    exact map_congr fun x hx=>h x (by simp only [Op.operands,Array.toList_append,List.mem_append]; exact .inl hx)
   have e2:cap.map (evalO t)=cap.map (evalO t'):=by
    apply Array.toList_inj.1
    rw [Array.toList_map,Array.toList_map]
    exact map_congr fun x hx=>h x (by simp only [Op.operands,Array.toList_append,List.mem_append]; exact .inr hx)
   rw [e1,e2]
  | _=>rfl
 | makeSlice e l c=>simp only [opK]; rw [h l (by simp [Op.operands]),h c (by simp [Op.operands])]
 | slice e x l hh m =>
  simp only [opK]
  rw [h x (by simp [Op.operands]),omap_congr (l:=l) (fun y hy=>h y (by simp [Op.operands] at hy ⊢; simp [hy])),omap_congr (l:=hh) (fun y hy=>h y (by simp [Op.operands] at hy ⊢; simp [hy])),
   omap_congr (l:=m) (fun y hy=>h y (by simp [Op.operands] at hy ⊢; simp [hy]))]
 | fieldAddr e x f=>simp only [opK]; rw [h x (by simp [Op.operands])]
 | field e x f=>simp only [opK]; rw [h x (by simp [Op.operands])]
 | indexAddr e x i=>simp only [opK]; rw [h x (by simp [Op.operands]),h i (by simp [Op.operands])]
 | index e x i=>simp only [opK]; rw [h x (by simp [Op.operands]),h i (by simp [Op.operands])]
 | extract x i=>simp only [opK]; rw [h x (by simp [Op.operands])]
 | lookup e x i ok=>simp only [opK]; rw [h x (by simp [Op.operands]),h i (by simp [Op.operands])]
 | makeMap e x=>simp only [opK]; rw [omap_congr (l:=x) (fun y hy=>h y (by simp [Op.operands] at hy ⊢; simp [hy]))]
 | mapUpdate e m i x=>simp only [opK]; rw [h m (by simp [Op.operands]),h i (by simp [Op.operands]),h x (by simp [Op.operands])]
 | insert e m i x=>simp only [opK]; rw [h m (by simp [Op.operands]),h i (by simp [Op.operands]),h x (by simp [Op.operands])]
 | mapEntry e m i=>simp only [opK]; rw [h m (by simp [Op.operands]),h i (by simp [Op.operands])]
 | entryStore e m i x=>simp only [opK]; rw [h m (by simp [Op.operands]),h i (by simp [Op.operands]),h x (by simp [Op.operands])]
 | range e x=>simp only [opK]; rw [h x (by simp [Op.operands])]
 | next it isS=>simp only [opK]; rw [h it (by simp [Op.operands])]
 | entry it=>simp only [opK]; rw [h it (by simp [Op.operands])]
 | call c =>
  obtain ⟨callee,args,ats⟩:=c
  have hall:∀ x∈args.toList,evalO t x=evalO t' x:=fun x hx=>h x (by simp only [Op.operands,Call.operands,Array.toList_append,List.mem_append]; exact .inr hx)
  cases callee with
  | value f =>
   show (tgtD (evalO t f) (args.toList.map (evalO t))).bind _=(tgtD (evalO t' f) (args.toList.map (evalO t'))).bind _
   rw [h f (by simp [Op.operands,Call.operands]),map_congr hall]
  | invoke x m=>rfl
  | builtin b =>
   unfold opK
   dsimp only
   generalize args.toList=al at hall ⊢
   generalize ats.toList=tl
   cases b <;> try rfl
   all_goals
    rcases al with _ | ⟨x,_ | ⟨y,_ | ⟨z,l⟩⟩⟩ <;> rcases tl with _ | ⟨e,_ | ⟨f,_ | ⟨g,tl⟩⟩⟩ <;> first
     | rfl
     | ((try dsimp only [List.map]); rw [hall x (by simp)]; done)
     | ((try dsimp only [List.map]); rw [hall x (by simp),hall y (by simp)]; done)
     | ((try dsimp only [List.map]); rw [hall x (by simp),hall y (by simp),hall z (by simp),map_congr (l:=l) (fun u hu=>hall u (by simp [hu]))])
 | _=>rfl
theorem convert_quiet {s:St H} {c d:TypeId} {x:Value} {p:Value×St H} (hl:(match P.underlying d with | some (.int _) | some .string=>false | _=>match P.underlying c with | some .string=>md | _=>true)=false) (h:convertD P md s c d x=some p):p.2=s:=by
 unfold convertD at h
 split at h
 next=>injection h with h; rw [← h]
 next=>injection h with h; rw [← h]
 next=>injection h with h; rw [← h]
 next e b hs hd =>
  rw [hd,hs] at hl
  have hl:md=false:=hl
  subst hl
  split at h
  · injection h with h; rw [← h]
  · cases h
 next => split at h
         · obtain ⟨_,h⟩:=csome h
           obtain ⟨l,_,h⟩:=bsome h
           obtain ⟨b,_,h⟩:=msome h
           rw [← h]
         · cases h
 next => split at h
         · obtain ⟨l,_,h⟩:=bsome h
           obtain ⟨b,_,h⟩:=msome h
           rw [← h]
         · cases h
 next=>cases h
theorem convert_md {s:St H} {c d:TypeId} {x:Value} (hl:(match P.underlying d with | some (.int _) | some .string=>false | _=>match P.underlying c with | some .string=>md | _=>true)=false):convertD P md s c d x=convertD P false s c d x:=by
 cases md with
 | false=>rfl
 | true =>
  unfold convertD
  split
  next=>rfl
  next=>rfl
  next=>rfl
  next e b hs hd=>rw [hd,hs] at hl; cases hl
  next=>rfl
  next=>rfl
  next=>rfl
theorem buildSlice_quiet {s:St H} {e:TypeId} {len:Nat} {parts:List (Nat×Value)} {p:Value×St H} (h:buildSliceD P false s e len parts=some p):p.2=s:=by
 unfold buildSliceD at h
 split at h
 next e =>
  obtain ⟨z,hz,h⟩:=bsome h
  obtain ⟨_,h⟩:=csome h
  obtain ⟨zero,_,h⟩:=bsome h
  obtain ⟨cells,_,h⟩:=bsome h
  simp only [cond_false] at h
  obtain ⟨_,h⟩:=csome h
  injection h with h
  rw [← h]
 next=>cases h
theorem buildSlice_free (s s':St H) (e:TypeId) (len:Nat) (parts:List (Nat×Value)):(buildSliceD P false s e len parts).map (·.1)=(buildSliceD P false s' e len parts).map (·.1):=by
 unfold buildSliceD
 split
 next e _ =>
  cases sizeD P e with
  | none=>rfl
  | some z =>
   simp only [Option.bind_some,cond_false]
   generalize (Nat.ble (len*z) 16777216&&(parts.all fun x=>x.2.cells.toList.all oneC))=c
   cases c with
   | false=>rfl
   | true =>
    simp only [cond_true]
    generalize (bif Nat.beq (len*z) 0 then some #[] else (zeroD P e).map (·.toArray))=zo
    cases zo with
    | none=>rfl
    | some zero =>
     simp only [Option.bind_some]
     generalize (Instr.fill (fun i=>some (i*z,z)) ((Array.range (len*z)).map (zero[· % zero.size]!)) parts)=co
     cases co with
     | none=>rfl
     | some cells =>
      simp only [Option.bind_some]
      generalize (cells.toList.all oneC&&Nat.blt 0 z)=c2
      cases c2 <;> rfl
 next=>rfl
theorem quiet_val {C:Oracle H} {o:Oper} (hq:loudOp P md o.op=false) {t:List Value} {s:St H} {v:Value} {s':St H} (h:opK P md C o t s (fun v s=>some (v,s))=some (v,s')):quietVal P o.op t s=some v∧s'=s:=by
 obtain ⟨dst,op,ty,pos,after,guard⟩:=o
 have val:∀ {m:Option Value},(m.bind fun v=>some (v,s))=some (v,s')→m=some v∧s'=s:=fun {m} h=>by
  obtain ⟨u,hu,h⟩:=bsome h
  injection h with h; injection h with h1 h2
  exact ⟨by rw [hu,h1],h2.symm⟩
 have triv:∀ {u:Value},(some (u,s):Option (Value×St H))=some (v,s')→some u=some v∧s'=s:=fun h=>by
  injection h with h; injection h with h1 h2; exact ⟨by rw [h1],h2.symm⟩
 cases op with
 | move x=>exact triv h
 | assign x=>exact triv h
 | pick c x y =>
  obtain ⟨b,hb,h⟩:=bsome h
  simp only [quietVal]
  rw [hb]
  cases b with
  | true=>exact triv h
  | false=>exact triv h
 | build e parts=>exact val h
 | buildSlice e len parts =>
  have hq:md=false:=hq
  subst hq
  obtain ⟨p,hp,h⟩:=bsome h
  injection h with h; injection h with h1 h2
  refine ⟨by simp only [quietVal]; rw [hp,← h1]; rfl,?_⟩
  rw [← h2]; exact buildSlice_quiet hp
 | load e x=>exact val h
 | nilCheck x=>exact val h
 | binOp op e x y yt=>exact val h
 | unOp op e x=>exact val h
 | convert c d x =>
  obtain ⟨p,hp,h⟩:=bsome h
  injection h with h; injection h with h1 h2
  refine ⟨by simp only [quietVal]; rw [← convert_md (md:=md) hq,hp,← h1]; rfl,?_⟩
  rw [← h2]; exact convert_quiet hq hp
 | makeFunc fn first cap =>
  cases fn with
  | func f=>exact triv h
  | _=>cases h
 | slice e x l hh m=>exact val h
 | fieldAddr e x f=>exact val h
 | field e x f=>exact val h
 | indexAddr e x i=>exact val h
 | index e x i=>exact val h
 | extract x i=>exact val h
 | lookup e x i ok=>exact val h
 | entry it=>exact val h
 | call c =>
  obtain ⟨callee,args,ats⟩:=c
  cases callee with
  | value f=>cases hq
  | invoke x m=>cases h
  | builtin b =>
   unfold opK at h
   unfold quietVal
   dsimp only at h ⊢
   generalize args.toList=al at h ⊢
   generalize ats.toList=tl at h ⊢
   cases b with
   | len=>match al,tl,h with | [x],[e],h=>exact val h
   | cap=>match al,tl,h with | [x],[e],h=>exact val h
   | min=>match al,tl,h with | x::l,tl,h=>exact val h
   | max=>match al,tl,h with | x::l,tl,h=>exact val h
   | _=>first | (cases hq; done) | cases h
 | _=>first | (cases hq; done) | cases h
theorem quiet_run {C:Oracle H} {o:Oper} (hq:loudOp P md o.op=false) {t:List Value} {s:St H} {v:Value} (h:quietVal P o.op t s=some v):opK P md C o t s (fun v s=>some (v,s))=some (v,s):=by
 obtain ⟨dst,op,ty,pos,after,guard⟩:=o
 have val:∀ {m:Option Value},m=some v→(m.bind fun v=>some (v,s))=some (v,s):=fun h=>by rw [h]; rfl
 have triv:∀ {u:Value},some u=some v→(some (u,s):Option (Value×St H))=some (v,s):=fun h=>by injection h with h; rw [h]
 cases op with
 | move x=>exact triv h
 | assign x=>exact triv h
 | pick c x y =>
  obtain ⟨b,hb,h⟩:=bsome h
  show (boolD (evalO t c)).bind _=_
  rw [hb]
  cases b with
  | true=>exact triv h
  | false=>exact triv h
 | build e parts=>exact val h
 | buildSlice e len parts =>
  have hq:md=false:=hq
  subst hq
  have h:(buildSliceD P false s e len (parts.toList.map fun x=>(x.1,evalO t x.2))).map (·.1)=some v:=h
  obtain ⟨p,hp,h2⟩:=msome h
  have:=buildSlice_quiet hp
  show (buildSliceD P false s e len (parts.toList.map fun x=>(x.1,evalO t x.2))).bind _=_
  rw [hp]
  show some (p.1,p.2)=_
  rw [h2,this]
 | load e x=>exact val h
 | nilCheck x=>exact val h
 | binOp op e x y yt=>exact val h
 | unOp op e x=>exact val h
 | convert c d x =>
  obtain ⟨p,hp,h⟩:=msome h
  rw [← convert_md (md:=md) hq] at hp
  show (convertD P md s c d (evalO t x)).bind _=_
  rw [hp,← h,← convert_quiet hq hp]; rfl
 | makeFunc fn first cap =>
  cases fn with
  | func f=>exact triv h
  | _=>cases h
 | slice e x l hh m=>exact val h
 | fieldAddr e x f=>exact val h
 | field e x f=>exact val h
 | indexAddr e x i=>exact val h
 | index e x i=>exact val h
 | extract x i=>exact val h
 | lookup e x i ok=>exact val h
 | entry it=>exact val h
 | call c =>
  obtain ⟨callee,args,ats⟩:=c
  cases callee with
  | value f=>cases hq
  | invoke x m=>cases h
  | builtin b =>
   unfold opK
   unfold quietVal at h
   dsimp only at h ⊢
   generalize args.toList=al at h ⊢
   generalize ats.toList=tl at h ⊢
   cases b with
   | len=>match al,tl,h with | [x],[e],h=>exact val h
   | cap=>match al,tl,h with | [x],[e],h=>exact val h
   | min=>match al,tl,h with | x::l,tl,h=>exact val h
   | max=>match al,tl,h with | x::l,tl,h=>exact val h
   | _=>first | (cases hq; done) | cases h
 | _=>first | (cases hq; done) | cases h
theorem quiet_free {o:Op} (hq:loudOp P md o=false) (hr:readsOp P o=false) (t:List Value) (s s':St H):quietVal P o t s=quietVal P o t s':=by
 cases o with
 | slice e x l hh m =>
  simp only [quietVal]
  cases m with
  | some m=>rfl
  | none =>
   have:sliceArrD P s e (evalO t x) (l.map (evalO t)) (hh.map (evalO t))=sliceArrD P s' e (evalO t x) (l.map (evalO t)) (hh.map (evalO t)):=by
    unfold sliceArrD
    cases optInt (l.map (evalO t)) with
    | none=>rfl
    | some l' =>
     cases optInt (hh.map (evalO t)) with
     | none=>rfl
     | some h' =>
      simp only [Option.bind_some]
      simp only [readsOp] at hr
      split
      · rename_i hu _; rw [hu] at hr; cases hr
      · rfl
   simp only
   rw [this]
 | buildSlice e len parts=>exact buildSlice_free s s' e len _
 | load e x=>cases hr
 | convert c d x=>cases hr
 | lookup e x i ok=>cases hr
 | entry it=>cases hr
 | call c =>
  obtain ⟨callee,args,ats⟩:=c
  cases callee with
  | value f=>cases hq
  | invoke x m=>rfl
  | builtin b =>
   unfold quietVal
   dsimp only
   generalize args.toList=al
   generalize ats.toList=tl
   cases b <;> first
    | (cases hr; done)
    | (cases hq; done)
    | (rcases al with _ | ⟨x,_ | ⟨y,l⟩⟩ <;> rcases tl with _ | ⟨e,_ | ⟨f,tl⟩⟩ <;> rfl)
 | makeFunc fn first cap=>cases fn <;> rfl
 | _=>first | rfl | (cases hq; done)
def guardD (all:Array Oper) (o:Oper) (t:List Value):Option Bool :=
 match o.guard with
 | none=>some true
 | some (j,b)=>match (all[j]?).bind (·.dst) with
  | none=>none
  | some d=>match t.getD d dc with
   | .bool x=>some (x == b)
   | .tuple vs=>if vs.toList.isEmpty then some false else none
   | _=>none
def StepD (P:Program) (md:Bool) (C:Oracle H) (all:Array Oper) (o:Oper) (t:List Value) (s:St H) (v:Value) (t':List Value) (s':St H):Prop :=
 t'=setD t o.dst v∧((guardD all o t=some true∧∀ (R':Type) (k':Value→St H→Option R'),opK P md C o t s k'=k' v s')∨(guardD all o t=some false∧v=undefV∧s'=s))
def lc (P:Program) (md:Bool) (all:Array Oper) (m:Nat):Nat:=(List.range all.size).countP fun k=>loudAt P md all k&&decide (k<m)
theorem countP_or {p q r:Nat→Bool}:∀ (l:List Nat) (i:Nat),l.Nodup→i∈l→(∀ k∈l,k≠i→p k=q k)→q i=false→l.countP p=l.countP q+(if p i then 1 else 0)
 | [],_,_,h,_,_=>by cases h
 | a::l,i,hn,hi,h,hq=>by
  rw [List.nodup_cons] at hn
  rw [List.countP_cons,List.countP_cons]
  by_cases e:a=i
  · subst e
    have:l.countP p=l.countP q:=List.countP_congr fun k hk=>by rw [h k (List.mem_cons_of_mem _ hk) (fun e=>hn.1 (e ▸ hk))]
    rw [this,hq]; simp
  · have hil:i∈l:=by
     cases hi with
     | head=>exact absurd rfl e
     | tail _ h=>exact h
    rw [countP_or (r:=r) l i hn.2 hil (fun k hk=>h k (List.mem_cons_of_mem _ hk)) hq,h a (List.mem_cons_self ..) e]
    omega
theorem lc_succ (all:Array Oper) (m:Nat) (hm:m<all.size):lc P md all (m+1)=lc P md all m+(if loudAt P md all m then 1 else 0):=by
 unfold lc
 rw [countP_or (r:=fun _=>true) (q:=fun k=>loudAt P md all k&&decide (k<m)) (List.range all.size) m List.nodup_range (by simp [hm]) (fun k hk hne=>by
  have:decide (k<m+1)=decide (k<m):=by by_cases h:k<m <;> simp [h] <;> omega
  rw [this]) (by simp)]
 simp
theorem set_self_eq {t:List Value} {d:Nat} {b:Bool} (h:t.getD d dc=.bool b):t.set d (.bool b)=t:=by
 have hd:d<t.length:=by
  rcases Nat.lt_or_ge d t.length with h2 | h2
  · exact h2
  · simp [List.getD,List.getElem?_eq_none h2,dc] at h
 have e:t[d]=.bool b:=by simpa [List.getD,hd] using h
 rw [← e]; exact List.set_getElem_self hd
def Traced (P:Program) (md:Bool) (C:Oracle H) (all:Array Oper) (k:List Value→St H→Option R) (r:R) (i:Nat) (t:List Value) (s:St H) (states:List (St H)) (said:List (Said H)):Prop :=
 ∃ (T:Nat→List Value) (S:Nat→St H) (V:Nat→Value) (ST:List (St H)),T i=t∧S i=s∧states <+: ST∧(∀ m,i≤m→m≤all.size→ST[lc P md all m]?=some (S m)) ∧
  (∀ m o,i≤m→all[m]?=some o→StepD P md C all o (T m) (S m) (V m) (T (m+1)) (S (m+1)))∧k (T all.size) (S all.size)=some r∧(∀ e∈said,e.holds P ST=true) ∧
  (∀ m o,i≤m→all[m]?=some o→guardD all o (T m)=some true→readsOp P o.op=true→loudOp P md o.op=false→loLoud P md all m<hiLoud P md all m→(⟨o.op,T m,loLoud P md all m,hiLoud P md all m,V m⟩:Said H).holds P ST=true)
theorem trace {C:Oracle H} {all:Array Oper} {k:List Value→St H→Option R} {r:R}:∀ (ops:List Oper) (i:Nat),all.toList.drop i=ops→i≤all.size→∀ (t:List Value) (s:St H) (states:List (St H)) (said:List (Said H)),
 opsDK P md C all i ops t s states said k=some r→states.length=lc P md all i+1→states.getLast?=some s →
 Traced P md C all k r i t s states said
 | [],i,hd,hi,t,s,states,said,h,hl,hlast=>by
  have hi2:i=all.size:=by
   have:=List.drop_eq_nil_iff.1 hd
   simp at this; omega
  subst hi2
  obtain ⟨hc,h⟩:=csome h
  refine ⟨fun _=>t,fun _=>s,fun _=>undefV,states,rfl,rfl,List.prefix_refl _,fun m h1 h2=>?_,fun m o h1 h2=>?_,h,List.all_eq_true.1 hc,fun m o h1 h2=>?_⟩
  · have:m=all.size:=by omega
    subst this
    rw [List.getLast?_eq_getElem?] at hlast
    rw [← hlast,hl]; rfl
  · exfalso
    rw [Array.getElem?_eq_none h1] at h2; cases h2
  · exfalso
    rw [Array.getElem?_eq_none h1] at h2; cases h2
 | o::ops,i,hd,hi,t,s,states,said,h,hl,hlast=>by
  have ho:all[i]?=some o:=by
   have:(all.toList.drop i)[0]?=some o:=by rw [hd]; rfl
   simpa using this
  have hlt:i<all.size:=by
   rcases Nat.lt_or_ge i all.size with h | h
   · exact h
   · rw [Array.getElem?_eq_none h] at ho; cases ho
  have hrest:all.toList.drop (i+1)=ops:=by rw [← List.tail_drop,hd]; rfl
  have hla:loudAt P md all i=loudOp P md o.op:=by simp [loudAt,ho]
  have hstates:∀ s',(loudOp P md o.op=false→s'=s)→(bif loudOp P md o.op then states++[s'] else states).length=lc P md all (i+1)+1∧(bif loudOp P md o.op then states++[s'] else states).getLast?=some s':=by
   intro s' hs'
   rw [lc_succ all i hlt,hla]
   cases hlo:loudOp P md o.op with
   | true=>simp [hl]
   | false=>rw [hs' hlo]; simp [hl,hlast]
  -- one step, and on
  have join:∀ (v:Value) (s':St H) (said':List (Said H)),StepD P md C all o t s v (setD t o.dst v) s'→(loudOp P md o.op=false→s'=s)→(∀ e∈said,e∈said') →
     (guardD all o t=some true→readsOp P o.op=true→loudOp P md o.op=false→loLoud P md all i<hiLoud P md all i→(⟨o.op,t,loLoud P md all i,hiLoud P md all i,v⟩:Said H)∈said') →
     opsDK P md C all (i+1) ops (setD t o.dst v) s' (bif loudOp P md o.op then states++[s'] else states) said' k=some r→Traced P md C all k r i t s states said:=by
   intro v s' said' hstep hs' hsub hin hk
   obtain ⟨hs1,hs2⟩:=hstates s' hs'
   obtain ⟨T,S,V,ST,a1,a2,a3,a4,a5,a6,a7,a8⟩:=trace ops (i+1) hrest (by omega) _ _ _ _ hk hs1 hs2
   have hpre:states <+: ST:=by
     refine List.IsPrefix.trans ?_ a3
     cases loudOp P md o.op with
     | true=>exact List.prefix_append _ _
     | false=>exact List.prefix_refl _
   refine ⟨fun m=>if m=i then t else T m,fun m=>if m=i then s else S m,fun m=>if m=i then v else V m,ST,by simp,by simp,hpre,fun m h1 h2=>?_,fun m o2 h1 h2=>?_,?_,fun e he=>a7 e (hsub e he),fun m o2 h1 h2=>?_⟩
   · by_cases e:m=i
     · subst e
       simp only [if_true]
       rw [List.getLast?_eq_getElem?,hl] at hlast
       have:lc P md all m<states.length:=by omega
       have h3:=hpre.getElem this
       simp only [Nat.add_sub_cancel] at hlast
       rw [List.getElem?_eq_getElem this] at hlast
       rw [List.getElem?_eq_getElem (Nat.lt_of_lt_of_le this hpre.length_le),← h3]
       exact hlast
     · simp only [if_neg e]; exact a4 m (by omega) h2
   · by_cases e:m=i
     · subst e
       rw [ho] at h2
       injection h2 with h2
       subst h2
       have:¬ (m+1=m):=by omega
       simp only [if_true,if_neg this,a1,a2]
       exact hstep
     · have:¬ (m+1=i):=by omega
       simp only [if_neg e,if_neg this]
       exact a5 m o2 (by omega) h2
   · have:¬ (all.size=i):=by omega
     simp only [if_neg this]; exact a6
   · by_cases e:m=i
     · subst e
       rw [ho] at h2
       injection h2 with h2
       subst h2
       simp only [if_true]
       exact fun g1 g2 g3 g4=>a7 _ (hin g1 g2 g3 g4)
     · simp only [if_neg e]
       exact a8 m o2 (by omega) h2
  have hgo:∀ t1,t1=t→guardD all o t=some true→opK P md C o t1 s (fun v s'=>opsDK P md C all (i+1) ops (setD t1 o.dst v) s' (bif loudOp P md o.op then states++[s'] else states)
     (bif readsOp P o.op&&!loudOp P md o.op&&Nat.blt (loLoud P md all i) (hiLoud P md all i) then ⟨o.op,t1,loLoud P md all i,hiLoud P md all i,v⟩::said else said) k)=some r→Traced P md C all k r i t s states said:=by
   intro t1 ht hg h0
   subst ht
   obtain ⟨v,s',hk,hy⟩:=opK_yields h0
   refine join v s' _ ⟨rfl,.inl ⟨hg,hy⟩⟩ (fun hlo=>?_) (fun e he=>?_) (fun _ h2 h3 h4=>?_) hk
   · exact (quiet_val hlo (hy _ (fun v s=>some (v,s)))).2
   · cases (readsOp P o.op&&!loudOp P md o.op&&Nat.blt (loLoud P md all i) (hiLoud P md all i)) with
     | true=>exact List.mem_cons_of_mem _ he
     | false=>exact he
   · have:Nat.blt (loLoud P md all i) (hiLoud P md all i)=true:=Nat.ble_eq_true_of_le h4
     rw [h2,h3,this]
     exact List.mem_cons_self ..
  have hskip:∀ t1,t1=t→guardD all o t=some false→opsDK P md C all (i+1) ops (setD t1 o.dst undefV) s (bif loudOp P md o.op then states++[s] else states) said k=some r→Traced P md C all k r i t s states said:=by
   intro t1 ht hg h0
   subst ht
   exact join undefV s said ⟨rfl,.inr ⟨hg,rfl,rfl⟩⟩ (fun _=>rfl) (fun e he=>he) (fun h1=>by rw [hg] at h1; cases h1) h0
  have h':(match o.guard with
   | none=>opK P md C o t s (fun v s'=>opsDK P md C all (i+1) ops (setD t o.dst v) s' (bif loudOp P md o.op then states++[s'] else states)
     (bif readsOp P o.op&&!loudOp P md o.op&&Nat.blt (loLoud P md all i) (hiLoud P md all i) then ⟨o.op,t,loLoud P md all i,hiLoud P md all i,v⟩::said else said) k)
   | some (j,b)=>match (all[j]?).bind (·.dst) with
     | none=>none
     | some d=>match t.getD d dc with
      | .bool x=>cond x (cond b (opK P md C o (t.set d (.bool true)) s (fun v s'=>opsDK P md C all (i+1) ops (setD (t.set d (.bool true)) o.dst v) s' (bif loudOp P md o.op then states++[s'] else states)
     (bif readsOp P o.op&&!loudOp P md o.op&&Nat.blt (loLoud P md all i) (hiLoud P md all i) then ⟨o.op,t.set d (.bool true),loLoud P md all i,hiLoud P md all i,v⟩::said else said) k)) (opsDK P md C all (i+1) ops (setD (t.set d (.bool true)) o.dst undefV) s (bif loudOp P md o.op then states++[s] else states) said k))
        (cond b (opsDK P md C all (i+1) ops (setD (t.set d (.bool false)) o.dst undefV) s (bif loudOp P md o.op then states++[s] else states) said k) (opK P md C o (t.set d (.bool false)) s (fun v s'=>opsDK P md C all (i+1) ops (setD (t.set d (.bool false)) o.dst v) s' (bif loudOp P md o.op then states++[s'] else states)
     (bif readsOp P o.op&&!loudOp P md o.op&&Nat.blt (loLoud P md all i) (hiLoud P md all i) then ⟨o.op,t.set d (.bool false),loLoud P md all i,hiLoud P md all i,v⟩::said else said) k)))
      | .tuple vs=>bif vs.toList.isEmpty then opsDK P md C all (i+1) ops (setD (t.set d undefV) o.dst undefV) s (bif loudOp P md o.op then states++[s] else states) said k else none
      | _=>none)=some r:=by
   have h1:=Eq.trans (forceL_eq t _).symm h
   simp only [← opF_eq]
   exact h1
  clear h
  split at h'
  next hg=>exact hgo t rfl (by simp [guardD,hg]) h'
  next j b hg =>
   split at h'
   next=>cases h'
   next d hdst =>
     split at h'
     next x hx =>
      have hgd:guardD all o t=some (x == b):=by simp only [guardD,hg,hdst,hx]
      cases x <;> cases b <;> simp only [cond_true,cond_false] at h'
      · exact hgo _ (set_self_eq hx) hgd h'
      · exact hskip _ (set_self_eq hx) hgd h'
      · exact hskip _ (set_self_eq hx) hgd h'
      · exact hgo _ (set_self_eq hx) hgd h'
     next vs hx =>
      obtain ⟨hc,h'⟩:=csome h'
      exact hskip _ (set_undef hx hc) (by simp only [guardD,hg,hdst,hx]; rw [if_pos hc]) h'
     next=>cases h'
def TDf (all:Array Oper) (V:Nat→Value) (t0:List Value) (p:Nat→Bool):Nat→List Value
 | 0=>t0
 | n+1=>if p n then setD (TDf all V t0 p n) ((all[n]?).bind (·.dst)) (V n) else TDf all V t0 p n
theorem setD_len (t:List Value) (d:Option Tmp) (v:Value):(setD t d v).length=t.length:=by cases d <;> simp [setD]
theorem TDf_len (all:Array Oper) (V:Nat→Value) (t0:List Value) (p:Nat→Bool):∀ n,(TDf all V t0 p n).length=t0.length
 | 0=>rfl
 | n+1=>by
  simp only [TDf]
  split
  · rw [setD_len,TDf_len all V t0 p n]
  · exact TDf_len all V t0 p n
theorem setD_get (t:List Value) (d:Option Tmp) (v:Value) (u:Nat) (x:Value):(setD t d v).getD u x=if d=some u∧u<t.length then v else t.getD u x:=by
 cases d with
 | none=>simp [setD]
 | some d =>
  simp only [setD,Option.some.injEq]
  by_cases e:d=u
  · subst e
    by_cases h:d<t.length
    · simp [List.getD,h]
    · simp [List.getD,h]
  · have:¬ (d=u∧u<t.length):=fun h=>e h.1
    rw [if_neg this]
    simp only [List.getD,List.getElem?_set_ne e]
theorem TDf_get2 {all:Array Oper} {V V':Nat→Value} {t0:List Value} {p q:Nat→Bool} {u:Nat} (x:Value):∀ n,(∀ k,k<n→(all[k]?).bind (·.dst)=some u→p k=q k∧(p k=true→V k=V' k))→(TDf all V t0 p n).getD u x=(TDf all V' t0 q n).getD u x
 | 0,_=>rfl
 | n+1,h=>by
  have ih:=TDf_get2 (V:=V) (V':=V') (t0:=t0) x n (fun k hk=>h k (by omega))
  simp only [TDf]
  by_cases e:(all[n]?).bind (·.dst)=some u
  · obtain ⟨this,hv⟩:=h n (by omega) e
    cases hp:p n with
    | true =>
     rw [hp] at this
     rw [← this]
     simp only [if_true,setD_get,TDf_len,e,ih,hv hp]
    | false =>
     rw [hp] at this
     rw [← this]
     simpa using ih
  · have e2:∀ (l:List Value) (y:Value),(setD l ((all[n]?).bind (·.dst)) y).getD u x=l.getD u x:=fun l y=>by
     rw [setD_get,if_neg (fun h=>e h.1)]
    split <;> split <;> (try simp only [e2]) <;> exact ih
theorem TDf_get {all:Array Oper} {V:Nat→Value} {t0:List Value} {p q:Nat→Bool} {u:Nat} (x:Value) (n:Nat) (h:∀ k,k<n→(all[k]?).bind (·.dst)=some u→p k=q k):(TDf all V t0 p n).getD u x=(TDf all V t0 q n).getD u x :=
 TDf_get2 x n fun k hk e=>⟨h k hk e,fun _=>rfl⟩
theorem TDf_last {all:Array Oper} {V:Nat→Value} {t0:List Value} {p:Nat→Bool} {u i:Nat} (x:Value) (hu:u<t0.length) (hi:(all[i]?).bind (·.dst)=some u) (hp:p i=true):∀ n,i<n→(∀ k,i<k→k<n→(all[k]?).bind (·.dst)=some u→p k=false)→(TDf all V t0 p n).getD u x=V i
 | 0,h,_=>by omega
 | n+1,hn,h=>by
  simp only [TDf]
  by_cases e:i=n
  · subst e
    rw [if_pos hp,setD_get,if_pos ⟨hi,by rw [TDf_len]; exact hu⟩]
  · have ih:=TDf_last (V:=V) x hu hi hp n (by omega) (fun k h1 h2=>h k h1 (by omega))
    by_cases e2:(all[n]?).bind (·.dst)=some u
    · rw [h n (by omega) (by omega) e2]; exact ih
    · split
      · rw [setD_get,if_neg (fun h=>e2 h.1)]; exact ih
      · exact ih
theorem TDf_all {all:Array Oper} {V:Nat→Value} {t0:List Value} {T:Nat→List Value} (h0:T 0=t0) (hs:∀ m o,all[m]?=some o→T (m+1)=setD (T m) o.dst (V m)):∀ n,n≤all.size→TDf all V t0 (fun _=>true) n=T n
 | 0,_=>h0.symm
 | n+1,h=>by
  have ho:all[n]?=some all[n]:=by simp [show n<all.size by omega]
  simp only [TDf,if_true]
  rw [TDf_all h0 hs n (by omega),hs n _ ho,ho]; rfl
theorem list_eq {l m:List Value} (h:l.length=m.length) (hg:∀ u,l.getD u dc=m.getD u dc):l=m:=by
 refine List.ext_getElem h fun u a b=>?_
 have:=hg u
 simpa [List.getD,a,b] using this
structure RegOk (P:Program) (md:Bool) (all:Array Oper):Prop where
 edges:EdgesOk all
 guard:∀ i o,all[i]?=some o→∀ j b,o.guard=some (j,b)→ahead all j i∧j<i
 pair:∀ i j x y,i<j→all[i]?=some x→all[j]?=some y→ahead all i j∨(((loudOp P md x.op&&loudOp P md y.op)=false∨(makesOp y=true∧∀ k z d,all[k]?=some z→y.dst=some d→(d∈opTmps all z→ahead all i k)∧(k≠j→z.dst≠some d)))∧(∀ d,x.dst=some d→d∉opTmps all y∧y.dst≠some d)∧∀ d,y.dst=some d→d∉opTmps all x)
theorem regOk_of {all:Array Oper} (h:regionOk P md all=true):RegOk P md all:=by
 unfold regionOk at h
 simp only [Bool.and_eq_true] at h
 obtain ⟨h1,h2⟩:=h
 have mem:∀ {i o},all[i]?=some o→(o,i)∈all.toList.zipIdx:=fun {i o} ho=>by
  rw [List.mem_zipIdx_iff_getElem?]; simpa using ho
 refine ⟨fun i o ho e he hb=>?_,fun i o ho j b hg=>?_,fun i j x y hij hx hy=>?_⟩
 · have:=List.all_eq_true.1 h1 _ (mem ho)
   simp only [Bool.and_eq_true] at this
   have:=List.all_eq_true.1 this.1 e he
   rw [hb] at this
   simp only [Bool.not_true,Bool.false_or] at this
   exact Nat.le_of_ble_eq_true this
 · have:=List.all_eq_true.1 h1 _ (mem ho)
   simp only [Bool.and_eq_true,hg] at this
   exact ⟨this.2.1,Nat.le_of_ble_eq_true this.2.2⟩
 · have:=List.all_eq_true.1 h2 _ (mem hy)
   have hmem:(x,i)∈all.toList.zipIdx.take j:=by
    have hl:i<all.toList.zipIdx.length:=by
     have:=Array.getElem?_eq_some_iff.1 hx
     obtain ⟨h,_⟩:=this
     simpa using h
    have h3:(all.toList.zipIdx.take j)[i]?=some (x,i):=by
     rw [List.getElem?_take_of_lt hij,List.getElem?_zipIdx]
     have:all.toList[i]?=some x:=by simpa using hx
     rw [this]; simp
    exact List.mem_of_getElem? h3
   have:=List.all_eq_true.1 this _ hmem
   simp only [pairOk,Bool.or_eq_true,Bool.and_eq_true,Bool.not_eq_true'] at this
   rcases this with h | ⟨⟨h3,h4⟩,h5⟩
   · exact .inl h
   · refine .inr ⟨?_,fun d hd=>?_,fun d hd=>?_⟩
     · rcases h3 with h3 | h3
       · exact .inl h3
       · right
         unfold early at h3
         simp only [Bool.and_eq_true] at h3
         refine ⟨h3.1,fun k z d hz hd=>?_⟩
         have h6:=List.all_eq_true.1 h3.2 _ (mem hz)
         simp only [hd,Bool.and_eq_true,Bool.or_eq_true,Bool.not_eq_true'] at h6
         refine ⟨fun hm=>?_,fun hk e=>?_⟩
         · rcases h6.1 with h7 | h7
           · have h8:(opTmps all z).contains d=true:=by simpa using hm
             rw [h8] at h7; cases h7
           · exact h7
         · rcases h6.2 with h7 | h7
           · exact hk (Nat.eq_of_beq_eq_true h7)
           · rw [e] at h7; simp at h7
     · rw [hd] at h4
       simp only [Bool.and_eq_true,Bool.not_eq_true',bne_iff_ne,ne_eq] at h4
       exact ⟨by simpa using h4.1,h4.2⟩
     · rw [hd] at h5
       simpa using h5
structure Pend (E:Env) (w:World) (b:Nat) (cells:Array Value) (e:TypeId):Prop where
 lt:b<w.heap.size
 is:w.heap[b]?=some (.cells cells e)
 own:∀ j,j<E.n→E.own j=true→E.blk j≠b
 tb:E.tb b=false
 fz:∀ o,E.fz b o=none
theorem Pend.keep {E E':Env} {w w':World} {b:Nat} {cells:Array Value} {e:TypeId} (h:Pend E w b cells e) (hK:Keep E w E' w'):Pend E' w' b cells e where
 lt:=Nat.lt_of_lt_of_le h.lt hK.size
 is:=(hK.block b h.lt h.own h.tb).trans h.is
 own:=(hK.far h.lt h.own h.tb).1
 tb:=(hK.far h.lt h.own h.tb).2
 fz:=fun o=>(hK.fzf b h.lt h.own h.tb o).trans (h.fz o)
theorem pend_born {E:Env} {s:St H} {w:World} (hW:WRel E s w) {b:Nat} {cells:Array Value} {e:TypeId} (h:Pend E w b cells e) {l:List Value} (hle:l.length≤cells.size)
 (hl:∀ i (h:i<l.length) (h':i<cells.size),VRel E l[i] cells[i]) {E0:Env} {w0:World} (hK:Keep E0 w0 E w) (hb0:w0.heap.size≤b) :
 WRel (E.add b 0 cells.size) (newD s (.row l)) w∧Keep E0 w0 (E.add b 0 cells.size) w:=by
 have hadd:=E.le_add b 0 cells.size
 refine ⟨hW.new b 0 cells.size _ rfl h.lt (Nat.le_refl _) (fun k _ _=>rfl) (fun i oi hi ho=>h.own i (hW.lt i oi hi) ho) h.tb (fun o v hv=>by rw [h.fz] at hv; cases hv) ?_,?_⟩
 · have hb:=h.is
   refine (⟨⟨e,by simp only [World.shape?,Env.add_blk,Env.add_sz,hb]⟩,by simpa using hle,fun i hi=>⟨cells[i]'(Nat.lt_of_lt_of_le hi hle),by simp only [World.cell?,Env.add_blk,Env.add_off,hb]; simp [Nat.lt_of_lt_of_le hi hle],(hl i hi _).mono hadd⟩,by simp,fun o ho=>?_⟩:RowRel (E.add b 0 cells.size) w E.n l)
   simp only [World.frozen?,Env.add_blk,hb]
   simp
 · refine ⟨hK.le.trans hadd,fun i x y z=>?_,hK.tbf,hK.os,hK.tape,hK.output,hK.size,hK.block,hK.fzf⟩
   by_cases hi:i<E.n
   · rw [hadd.own i hi] at z
     rw [hadd.blk i hi]
     exact hK.fresh i x hi z
   · have:i=E.n:=by have:i<E.n+1:=y; omega
     subst this
     right; simpa using hb0
theorem DefOk.add {B:Nat} {E:Env} {w:World} {b:Nat} {cells:Array Value} {e:TypeId} (o z:Nat) (h:w.heap[b]?=some (.cells cells e)):∀ {ds:List Deferred},DefOk B E w ds→DefOk B (E.add b o z) w ds
 | [],_=>trivial
 | d::ds,⟨⟨r,h1,h2,h3,h4,h5⟩,h6⟩=>by
  refine ⟨⟨r,h1,h2,h3,⟨fun j hj ho e=>?_,h4.2⟩,h5⟩,DefOk.add o z h h6⟩
  by_cases hin:j<E.n
  · rw [(E.le_add b o z).own j hin] at ho
    rw [(E.le_add b o z).blk j hin] at e
    exact h4.1 j hin ho e
  · have:j=E.n:=by have:j<E.n+1:=hj; omega
    subst this
    rw [Env.add_blk] at e
    subst e
    rw [h] at h3; cases h3
theorem early_sound {lb:Option Nat} {o:Oper} {e:TypeId} (hop:o.op=.alloc e) {l:List Value} (hz:zeroD P e=some l) {a:Act} {w:World} (Q:Exit→Act→World→Prop) (next:Act→World→Prop)
 (hn:∀ cells:Array Value,l.length=cells.size→(∀ (E:Env) i (h:i<l.length) (h':i<cells.size),VRel E l[i] cells[i])→next (a.put o.dst (.pointer (some ⟨w.heap.size,0,none⟩))) (w.alloc (.cells cells e))):o.wpIn (FW lb) 0 P a w next Q:=by
 obtain ⟨i,v,hi,hzv,rfl,hf⟩:=zeroD_eq hz
 refine ⟨fun f _=>FW_fn lb f,?_⟩
 rw [Oper.semAt_eq _ _ _ (fun c hc=>by rw [hop] at hc; cases hc)]
 obtain ⟨dst,op,ty,pos,after,guard⟩:=o
 simp only at hop
 subst hop
 have hx:(execOp a.eval { dst:=dst,op:=.alloc e,type:=ty,pos:=pos,after:=after,guard:=guard }).run P w=.ok (.value (.pointer (some ⟨w.heap.size,0,none⟩))) (w.alloc (.cells v.cells e)):=by
  have h1:(Instr.alloc e true (.tuple #[])).run P w=.ok (.pointer (some ⟨w.heap.size,0,none⟩)) (w.alloc (.cells v.cells e)):=by
   simp [Instr.alloc,zeroValue,typeInfo,hi,hzv,newVar,newRow]
  simp only [execOp,Sem.run_bind]
  rw [h1]; rfl
 rw [hx]
 exact hn v.cells (by simp) (fun E i a b=>by
  rw [List.getElem_map,Array.getElem_toList]
  exact nz1_rel (List.all_eq_true.1 hf _ (by simp)))
def effOf (done pend:List Nat) (k:Nat):Bool:=done.contains k&&!pend.contains k
def Vp (V:Nat→Value) (pend:List Nat) (k:Nat):Value:=if pend.contains k then dc else V k
def effN (P:Program) (md:Bool) (all:Array Oper) (done pend:List Nat):Nat:=(List.range all.size).countP fun k=>loudAt P md all k&&effOf done pend k
structure PInv (P:Program) (md:Bool) (all:Array Oper) (V:Nat→Value) (t0:List Value) (ST:List (St H)) (B:Nat) (E0:Env) (w0:World) (done pend:List Nat) (bk:Nat→Nat) (E:Env) (a:Act) (w:World):Prop where
 T:LRel E (TDf all (Vp V pend) t0 (fun k=>done.contains k) all.size) a.tmps.toList
 W:∀ zz,ST[effN P md all done pend]?=some zz→WRel E zz w
 K:Keep E0 w0 E w
 D:DefOk B E w a.defers
 sub:∀ j∈pend,j∈done
 nodup:pend.Nodup
 pre:∀ k,k<all.size→loudAt P md all k=true→effOf done pend k=true→∀ k',k'<k→loudAt P md all k'=true→effOf done pend k'=true
 at0:∀ j∈pend,∃ o e l cells,all[j]?=some o∧o.op=.alloc e∧o.guard=none∧zeroD P e=some l∧l.length=cells.size∧(∀ (E:Env) i (h:i<l.length) (h':i<cells.size),VRel E l[i] cells[i])∧Pend E w (bk j) cells e∧w0.heap.size≤bk j ∧
  (∀ d,o.dst=some d→d<t0.length→a.tmps[d]?=some (.pointer (some ⟨bk j,0,none⟩)))∧(∀ k z d,all[k]?=some z→o.dst=some d→k≠j→z.dst≠some d)
 inj:∀ j∈pend,∀ j'∈pend,bk j=bk j'→j=j'
def Settled (P:Program) (md:Bool) (all:Array Oper) (done pend:List Nat):Prop:=∀ j∈pend,∃ k,k<j∧loudAt P md all k=true∧effOf done pend k=false
theorem least {p:Nat→Prop} {k:Nat} (h:p k):∃ m,p m∧m≤k∧∀ j,j<m→¬ p j:=by
 induction k using Nat.strongRecOn with
 | _ k ih =>
  by_cases hx:∃ j,j<k∧p j
  · obtain ⟨j,hj,hp⟩:=hx
    obtain ⟨m,h1,h2,h3⟩:=ih j hj hp
    exact ⟨m,h1,by omega,h3⟩
  · exact ⟨k,h,Nat.le_refl _,fun j hj hp=>hx ⟨j,hj,hp⟩⟩
theorem gap {all:Array Oper} {done pend:List Nat} (hs:Settled P md all done pend) {k:Nat} (hk:loudAt P md all k=true) (he:effOf done pend k=false):∃ m,m≤k∧loudAt P md all m=true∧m∉done∧∀ j,j<m→loudAt P md all j=true→effOf done pend j=true:=by
 obtain ⟨m,⟨h1,h2⟩,h3,h4⟩:=least (p:=fun k=>loudAt P md all k=true∧effOf done pend k=false) ⟨hk,he⟩
 refine ⟨m,h3,h1,fun hd=>?_,fun j hj hl=>?_⟩
 · have:m∈pend:=by
    have hd':done.contains m=true:=by simpa using hd
    unfold effOf at h2
    rw [hd'] at h2
    simpa using h2
   obtain ⟨k2,q1,q2,q3⟩:=hs m this
   exact h4 k2 q1 ⟨q2,q3⟩
 · cases hq:effOf done pend j with
   | true=>rfl
   | false=>exact absurd ⟨hl,hq⟩ (h4 j hj)
theorem put_get {a:Act} {d0:Option Tmp} {d:Nat} {v:Value} (h:d0≠some d):(a.put d0 v).tmps[d]?=a.tmps[d]?:=by
 cases d0 with
 | none=>rfl
 | some d1 =>
  show (a.tmps.setIfInBounds d1 v)[d]?=_
  rw [Array.getElem?_setIfInBounds,if_neg (fun e=>h (by rw [e]))]
theorem settle1 {B:Nat} {C:Oracle H} {all:Array Oper} {t0:List Value} {T:Nat→List Value} {S:Nat→St H} {V:Nat→Value} {ST:List (St H)}
 (hST:∀ m,m≤all.size→ST[lc P md all m]?=some (S m)) (hstep:∀ m o,all[m]?=some o→StepD P md C all o (T m) (S m) (V m) (T (m+1)) (S (m+1)))
 {E0:Env} {w0:World} {done pend:List Nat} {bk:Nat→Nat} {E:Env} {a:Act} {w:World} (h:PInv P md all V t0 ST B E0 w0 done pend bk E a w) {j:Nat} (hj:j∈pend)
 (hs:∀ k,k<j→loudAt P md all k=true→effOf done pend k=true):∃ E',PInv P md all V t0 ST B E0 w0 done (pend.erase j) bk E' a w:=by
 obtain ⟨o,e,l,cells,ho,hop,hg,hz,hlen,hl,hP,hb0,htm,hun⟩:=h.at0 j hj
 have hjsz:j<all.size:=by
  obtain ⟨q,_⟩:=Array.getElem?_eq_some_iff.1 ho; exact q
 have hlj:loudAt P md all j=true:=by simp [loudAt,ho,hop,loudOp]
 have hjp:pend.contains j=true:=by simpa using hj
 have hejf:effOf done pend j=false:=by simp [effOf,hj]
 have hlate:∀ k,k<all.size→j<k→loudAt P md all k=true→effOf done pend k=false:=fun k hk hjk hlk=>by
  cases hq:effOf done pend k with
  | false=>rfl
  | true=>rw [h.pre k hk hlk hq j hjk hlj] at hejf; cases hejf
 have hcnt:effN P md all done pend=lc P md all j:=by
  refine List.countP_congr fun k hk=>?_
  have hk:k<all.size:=by simpa using hk
  cases hlk:loudAt P md all k with
  | false=>rfl
  | true =>
   by_cases q:k<j
   · simp [hs k q hlk,q]
   · by_cases q2:k=j
     · subst q2; simp [hejf]
     · simp [hlate k hk (by omega) hlk,q]
 have hW:WRel E (S j) w:=h.W _ (by rw [hcnt]; exact hST j (by omega))
 obtain ⟨_,hstp⟩:=hstep j o ho
 have hgd:guardD all o (T j)=some true:=by simp [guardD,hg]
 have hall:allocD P (S j) e=some (V j,S (j+1)):=by
  rcases hstp with ⟨_,hy⟩ | ⟨q,_⟩
  · have h1:=hy _ (fun v s=>some (v,s))
    unfold opK at h1
    rw [hop] at h1
    have h1:(allocD P (S j) e).bind (fun p=>some (p.1,p.2))=some (V j,S (j+1)):=h1
    obtain ⟨p,hp,h2⟩:=bsome h1
    rw [hp]
    injection h2 with h2
    rw [← h2]
  · rw [hgd] at q; cases q
 unfold allocD at hall
 rw [hz] at hall
 simp only [Option.map_some,Option.some.injEq,Prod.mk.injEq] at hall
 obtain ⟨hV,hS⟩:=hall
 obtain ⟨k1,k2⟩:=pend_born hW hP (l:=l) (Nat.le_of_eq hlen) (fun i a b=>hl E i a b) h.K hb0
 have hadd:=E.le_add (bk j) 0 cells.size
 have hmem:∀ k,k∈pend.erase j↔k≠j∧k∈pend:=fun k=>h.nodup.mem_erase_iff
 have hc:∀ k,k≠j→(pend.erase j).contains k=pend.contains k:=fun k hk=>by
  have:=hmem k
  by_cases q:k∈pend
  · have q2:k∈pend.erase j:=this.2 ⟨hk,q⟩
    simp [q,q2]
  · have q2:k∉pend.erase j:=fun q3=>q (this.1 q3).2
    simp [q,q2]
 have hcj:(pend.erase j).contains j=false:=by
  have:j∉pend.erase j:=fun q=>((hmem j).1 q).1 rfl
  simpa using this
 have hdj:done.contains j=true:=by simpa using h.sub j hj
 have heff:∀ k,effOf done (pend.erase j) k=if k=j then true else effOf done pend k:=fun k=>by
  unfold effOf
  by_cases q:k=j
  · subst q; rw [hcj,hdj]; simp
  · rw [hc k q,if_neg q]
 refine ⟨E.add (bk j) 0 cells.size,⟨?_,fun zz hzz=>?_,k2,?_,fun k hk=>h.sub k ((hmem k).1 hk).2,h.nodup.erase j,fun k hk hlk he k' hk' hlk'=>?_,fun k hk=>?_,fun k hk k' hk'=>h.inj k ((hmem k).1 hk).2 k' ((hmem k').1 hk').2⟩⟩
 · have hT:=h.T
   refine ⟨by rw [TDf_len]; have:=hT.1; rw [TDf_len] at this; exact this,fun u hu hu'=>?_⟩
   have hlu:u<(TDf all (Vp V pend) t0 (fun k=>done.contains k) all.size).length:=by rw [TDf_len] at hu ⊢; exact hu
   have e1:∀ (V:Nat→Value) (h:u<(TDf all V t0 (fun k=>done.contains k) all.size).length),(TDf all V t0 (fun k=>done.contains k) all.size)[u]=(TDf all V t0 (fun k=>done.contains k) all.size).getD u dc:=fun V h=>by rw [List.getD_eq_getElem?_getD,List.getElem?_eq_getElem h]; rfl
   rw [e1]
   by_cases q:o.dst=some u
   · have hu0:u<t0.length:=by rw [TDf_len] at hu; exact hu
     rw [TDf_last dc hu0 (i:=j) (by rw [ho]; exact q) hdj all.size hjsz (fun k q1 q2 q3=>by
      exfalso
      obtain ⟨z,hz1,hz2⟩:∃ z,all[k]?=some z∧z.dst=some u:=by
       cases hzz:all[k]? with
       | none=>rw [hzz] at q3; cases q3
       | some z=>rw [hzz] at q3; exact ⟨z,rfl,q3⟩
      exact hun k z u hz1 q (by omega) hz2)]
     have e2:Vp V (pend.erase j) j=V j:=by simp only [Vp]; rw [hcj]; rfl
     rw [e2,← hV]
     have htm:=htm u q hu0
     have e3:a.tmps.toList[u]=.pointer (some ⟨bk j,0,none⟩):=by
      obtain ⟨q1,q2⟩:=Array.getElem?_eq_some_iff.1 htm
      simpa using q2
     rw [e3]
     have:=VRel.ptr (E:=E.add (bk j) 0 cells.size) E.n 0 (Nat.lt_succ_self _)
     simp only [Env.add_blk,Env.add_off] at this
     rw [← hW.n]; exact this
   · have e2:(TDf all (Vp V (pend.erase j)) t0 (fun k=>done.contains k) all.size).getD u dc=(TDf all (Vp V pend) t0 (fun k=>done.contains k) all.size).getD u dc:=by
      refine TDf_get2 dc all.size fun k hk q3=>⟨rfl,fun _=>?_⟩
      have:k≠j:=fun q4=>by subst q4; rw [ho] at q3; exact q q3
      simp only [Vp]; rw [hc k this]
     rw [e2,← e1 _ hlu]
     exact (hT.2 u hlu hu').mono hadd
 · have:effN P md all done (pend.erase j)=lc P md all (j+1):=by
    rw [lc_succ all j hjsz,hlj,if_pos rfl,← hcnt]
    unfold effN
    rw [countP_or (r:=fun _=>true) (q:=fun k=>loudAt P md all k&&effOf done pend k) (List.range all.size) j List.nodup_range (by simp [hjsz]) (fun k _ hne=>by rw [heff,if_neg hne]) (by simp [hejf])]
    simp [heff,hlj]
   rw [this,hST (j+1) (by omega)] at hzz
   injection hzz with hzz
   subst hzz
   rw [← hS]; exact k1
 · exact h.D.add 0 cells.size hP.is
 · rw [heff] at he ⊢
   by_cases q:k'=j
   · rw [if_pos q]
   · rw [if_neg q]
     by_cases q2:k=j
     · subst q2; exact hs k' hk' hlk'
     · rw [if_neg q2] at he; exact h.pre k hk hlk he k' hk' hlk'
 · obtain ⟨hkj,hkp⟩:=(hmem k).1 hk
   obtain ⟨o2,e2,l2,cells2,q1,q2,q3,q4,q5,q6,q7,q8,q9⟩:=h.at0 k hkp
   refine ⟨o2,e2,l2,cells2,q1,q2,q3,q4,q5,q6,⟨q7.lt,q7.is,fun i hi hio=>?_,q7.tb,q7.fz⟩,q8,q9⟩
   by_cases hin:i<E.n
   · rw [hadd.own i hin] at hio
     rw [hadd.blk i hin]
     exact q7.own i hin hio
   · have:i=E.n:=by have:i<E.n+1:=hi; omega
     subst this
     rw [Env.add_blk]
     exact fun q=>hkj (h.inj j hj k hkp q).symm
theorem settle {B:Nat} {C:Oracle H} {all:Array Oper} {t0:List Value} {T:Nat→List Value} {S:Nat→St H} {V:Nat→Value} {ST:List (St H)}
 (hST:∀ m,m≤all.size→ST[lc P md all m]?=some (S m)) (hstep:∀ m o,all[m]?=some o→StepD P md C all o (T m) (S m) (V m) (T (m+1)) (S (m+1)))
 {E0:Env} {w0:World} {done:List Nat} {bk:Nat→Nat} {a:Act} {w:World}:∀ (n:Nat) (pend:List Nat) (E:Env),pend.length≤n→PInv P md all V t0 ST B E0 w0 done pend bk E a w →
 ∃ pend' E',PInv P md all V t0 ST B E0 w0 done pend' bk E' a w∧Settled P md all done pend':=by
 intro n
 induction n with
 | zero =>
  intro pend E hn h
  have:pend=[]:=List.eq_nil_of_length_eq_zero (by omega)
  subst this
  exact ⟨[],E,h,fun j hj=>by cases hj⟩
 | succ n ih =>
  intro pend E hn h
  by_cases hs:Settled P md all done pend
  · exact ⟨pend,E,h,hs⟩
  · have:∃ j,j∈pend∧∀ k,k<j→loudAt P md all k=true→effOf done pend k=true:=by
     apply Classical.byContradiction
     intro hno
     refine hs fun j hj=>?_
     apply Classical.byContradiction
     intro hno2
     refine hno ⟨j,hj,fun k hk hl=>?_⟩
     cases hq:effOf done pend k with
     | true=>rfl
     | false=>exact absurd ⟨k,hk,hl,hq⟩ hno2
    obtain ⟨j,hj,hk⟩:=this
    obtain ⟨E',h'⟩:=settle1 hST hstep h hj hk
    exact ih _ E' (by rw [List.length_erase_of_mem hj]; omega) h'
theorem PInv.after {B:Nat} {all:Array Oper} {V:Nat→Value} {t0:List Value} {ST:List (St H)} {E0:Env} {w0:World} {done pend:List Nat} {bk:Nat→Nat} {E:Env} {a:Act} {w:World} (h:PInv P md all V t0 ST B E0 w0 done pend bk E a w)
 {i:Nat} {o:Oper} (ho:all[i]?=some o) (hi:i∉done) {E':Env} {w':World} {v':Value} (hT:LRel E' (TDf all (Vp V pend) t0 (fun k=>(i::done).contains k) all.size) (a.put o.dst v').tmps.toList)
 (hW:∀ zz,ST[effN P md all done pend+(if loudAt P md all i then 1 else 0)]?=some zz→WRel E' zz w') (hK:Keep E w E' w') (hD:DefOk B E' w' a.defers) (hl:loudAt P md all i=true→∀ k,k<i→loudAt P md all k=true→effOf done pend k=true) :
 PInv P md all V t0 ST B E0 w0 (i::done) pend bk E' (a.put o.dst v') w':=by
 have hisz:i<all.size:=by
  obtain ⟨q,_⟩:=Array.getElem?_eq_some_iff.1 ho; exact q
 have hip:i∉pend:=fun q=>hi (h.sub i q)
 have heff:∀ k,effOf (i::done) pend k=if k=i then true else effOf done pend k:=fun k=>by
  unfold effOf
  by_cases q:k=i
  · subst q; simp [hip]
  · rw [if_neg q]; simp [q]
 have hei:effOf done pend i=false:=by simp [effOf,hi]
 refine ⟨hT,fun zz hzz=>?_,h.K.trans hK,by rw [putDef]; exact hD,fun j hj=>List.mem_cons_of_mem _ (h.sub j hj),h.nodup,fun k hk hlk he k' hk' hlk'=>?_,fun j hj=>?_,h.inj⟩
 · refine hW zz ?_
   rw [← hzz]
   congr 1
   unfold effN
   rw [countP_or (r:=fun _=>true) (p:=fun k=>loudAt P md all k&&effOf (i::done) pend k) (q:=fun k=>loudAt P md all k&&effOf done pend k) (List.range all.size) i List.nodup_range (by simp [hisz]) (fun k _ hne=>by rw [heff,if_neg hne]) (by simp [hei])]
   simp [heff]
 · rw [heff] at he ⊢
   by_cases q:k'=i
   · rw [if_pos q]
   · rw [if_neg q]
     by_cases q2:k=i
     · subst q2; exact hl hlk k' hk' hlk'
     · rw [if_neg q2] at he; exact h.pre k hk hlk he k' hk' hlk'
 · obtain ⟨o2,e2,l2,cells2,q1,q2,q3,q4,q5,q6,q7,q8,q9,q10⟩:=h.at0 j hj
   refine ⟨o2,e2,l2,cells2,q1,q2,q3,q4,q5,q6,q7.keep hK,q8,fun d hd hlt=>?_,q10⟩
   rw [put_get (q10 i o d ho hd (fun q=>hi (q ▸ h.sub j hj)))]
   exact q9 d hd hlt
theorem PInv.ahead {B:Nat} {all:Array Oper} {V:Nat→Value} {t0:List Value} {ST:List (St H)} {E0:Env} {w0:World} {done pend:List Nat} {bk:Nat→Nat} {E:Env} {a:Act} {w:World} (h:PInv P md all V t0 ST B E0 w0 done pend bk E a w)
 {zz:St H} (hzz:ST[effN P md all done pend]?=some zz) {i:Nat} {o:Oper} {e:TypeId} {l:List Value} {cells:Array Value} (ho:all[i]?=some o) (hop:o.op=.alloc e) (hg:o.guard=none) (hz:zeroD P e=some l) (hlen:l.length=cells.size)
 (hl:∀ (E:Env) i (h:i<l.length) (h':i<cells.size),VRel E l[i] cells[i]) (hun:∀ k z d,all[k]?=some z→o.dst=some d→k≠i→z.dst≠some d) (hi:i∉done)
 (hT:LRel E (TDf all (Vp V (i::pend)) t0 (fun k=>(i::done).contains k) all.size) (a.put o.dst (.pointer (some ⟨w.heap.size,0,none⟩))).tmps.toList) :
 PInv P md all V t0 ST B E0 w0 (i::done) (i::pend) (fun k=>if k=i then w.heap.size else bk k) E (a.put o.dst (.pointer (some ⟨w.heap.size,0,none⟩))) (w.alloc (.cells cells e)):=by
 have hWz:=h.W zz hzz
 have hK1:Keep E w E (w.alloc (.cells cells e)):=⟨.refl E,fun i a b=>absurd b (Nat.not_lt_of_le a),fun _ q=>.inl q,rfl,rfl,rfl,by simp,fun b hb _ _=>Below.heap_alloc _ _ _ hb,fun _ _ _ _ _=>rfl⟩
 have hip:i∉pend:=fun q=>hi (h.sub i q)
 have heff:∀ k,effOf (i::done) (i::pend) k=effOf done pend k:=fun k=>by
  unfold effOf
  by_cases q:k=i
  · subst q; simp [hi]
  · simp [q]
 have heffN:effN P md all (i::done) (i::pend)=effN P md all done pend:=by
  unfold effN
  exact List.countP_congr fun k _=>by rw [heff]
 have hsz:a.tmps.size=t0.length:=by have:=h.T.1; rw [TDf_len] at this; simpa using this.symm
 refine ⟨hT,fun z2 h2=>?_,h.K.trans hK1,?_,fun j hj=>?_,List.nodup_cons.2 ⟨hip,h.nodup⟩,fun k hk hlk he k' hk' hlk'=>?_,fun j hj=>?_,fun j hj j' hj' q=>?_⟩
 · rw [heffN,hzz] at h2
   injection h2 with h2
   subst h2
   exact hWz.off (by simp) fun b hb _=>Below.heap_alloc _ _ _ hb
 · rw [putDef]; exact h.D.keep hK1
 · cases hj with
   | head=>exact List.mem_cons_self ..
   | tail _ hj=>exact List.mem_cons_of_mem _ (h.sub j hj)
 · rw [heff] at he ⊢
   exact h.pre k hk hlk he k' hk' hlk'
 · by_cases q:j=i
   · subst q
     refine ⟨o,e,l,cells,ho,hop,hg,hz,hlen,hl,?_,?_,fun d hd hlt=>?_,hun⟩
     · simp only [if_true]
       refine ⟨by simp,?_,fun k hk hko q=>?_,hWz.no_tb (Nat.le_refl _),fun oo=>?_⟩
       · show (w.heap.push _)[w.heap.size]?=_
         rw [Array.getElem?_push_size]
       · have:=hWz.blt k hk hko; omega
       · cases hq:E.fz w.heap.size oo with
         | none=>rfl
         | some v=>exact (hWz.no_fz (Nat.le_refl _) hq).elim
     · simp only [if_true]; exact h.K.size
     · simp only [if_true]
       rw [hd]
       show (a.tmps.setIfInBounds d _)[d]?=_
       rw [Array.getElem?_setIfInBounds,if_pos rfl,if_pos (by rw [hsz]; exact hlt)]
   · have hj':j∈pend:=by
      cases hj with
      | head=>exact absurd rfl q
      | tail _ hj=>exact hj
     obtain ⟨o2,e2,l2,cells2,q1,q2,q3,q4,q5,q6,q7,q8,q9,q10⟩:=h.at0 j hj'
     simp only [if_neg q]
     refine ⟨o2,e2,l2,cells2,q1,q2,q3,q4,q5,q6,q7.keep hK1,q8,fun d hd hlt=>?_,q10⟩
     rw [put_get (q10 i o d ho hd (fun q2=>q q2.symm))]
     exact q9 d hd hlt
 · have hlt:∀ k,k∈pend→bk k<w.heap.size:=fun k hk=>by
    obtain ⟨o2,e2,l2,cells2,q1,q2,q3,q4,q5,q6,q7,_⟩:=h.at0 k hk
    exact q7.lt
   have mem:∀ k,k∈i::pend→k≠i→k∈pend:=fun k hk hne=>by
    cases hk with
    | head=>exact absurd rfl hne
    | tail _ hk=>exact hk
   by_cases c1:j=i <;> by_cases c2:j'=i
   · rw [c1,c2]
   · simp only [if_pos c1,if_neg c2] at q
     have:=hlt j' (mem j' hj' c2); omega
   · simp only [if_pos c2,if_neg c1] at q
     have:=hlt j (mem j hj c1); omega
   · simp only [if_neg c1,if_neg c2] at q
     exact h.inj j (mem j hj c1) j' (mem j' hj' c2) q
theorem draw_sim {B:Nat} {C:Oracle H} (hC:COk P C) {lb:Option Nat} {all:Array Oper} (hok:RegOk P md all) {t0:List Value} {T:Nat→List Value} {S:Nat→St H} {V:Nat→Value} {ST:List (St H)}
 (hT0:T 0=t0) (hST:∀ m,m≤all.size→ST[lc P md all m]?=some (S m)) (hstep:∀ m o,all[m]?=some o→StepD P md C all o (T m) (S m) (V m) (T (m+1)) (S (m+1)))
 (hsaid:∀ m o,all[m]?=some o→guardD all o (T m)=some true→readsOp P o.op=true→loudOp P md o.op=false→loLoud P md all m<hiLoud P md all m→(⟨o.op,T m,loLoud P md all m,hiLoud P md all m,V m⟩:Said H).holds P ST=true)
 (Q:Exit→Act→World→Prop) {E0:Env} {w0:World} (hQ:∀ E a w,LRel E (T all.size) a.tmps.toList→WRel E (S all.size) w→Keep E0 w0 E w→DefOk B E w a.defers→Q .normal a w) :
 ∀ (todo done:List Nat),Sched all done todo→(∀ i o,i∈done→all[i]?=some o→∀ e∈o.after.toList,Region.binds .any e=true→e.on∈done)→(∀ i∈done,i<all.size)→∀ (pend:List Nat) (bk:Nat→Nat) (E:Env) (a:Act) (w:World),
 PInv P md all V t0 ST B E0 w0 done pend bk E a w→Settled P md all done pend →
 wpOpsIn (FW lb) 0 P all Q todo a w:=by
 intro todo
 induction todo with
 | nil =>
  intro done hs hcl hlt pend bk E a w hI hset
  cases hs with
  | nil _ hall =>
   have hpn:pend=[]:=by
    cases hp:pend with
    | nil=>rfl
    | cons j l =>
     exfalso
     have hj:j∈pend:=by rw [hp]; exact List.mem_cons_self ..
     obtain ⟨k,hk,hlk,hek⟩:=hset j hj
     obtain ⟨m,h1,h2,h3,_⟩:=gap hset hlk hek
     exact h3 (hall m (by have:=hlt j (hI.sub j hj); omega))
   subst hpn
   have e1:TDf all (Vp V []) t0 (fun k=>done.contains k) all.size=T all.size:=by
    rw [← TDf_all hT0 (fun m o ho=>(hstep m o ho).1) all.size (Nat.le_refl _)]
    refine list_eq (by rw [TDf_len,TDf_len]) fun u=>TDf_get2 dc all.size fun k hk _=>⟨?_,fun _=>by simp [Vp]⟩
    simpa using hall k hk
   have e2:effN P md all done []=lc P md all all.size:=by
    refine List.countP_congr fun k hk=>?_
    have hk:k<all.size:=by simpa using hk
    have:done.contains k=true:=by simpa using hall k hk
    unfold effOf
    rw [this]; simp [hk]
   have hT:=hI.T
   rw [e1] at hT
   exact hQ E a w hT (hI.W _ (by rw [e2]; exact hST _ (Nat.le_refl _))) hI.K hI.D
 | cons i todo ih =>
  intro done hs hcl hlt pend bk E a w hI hset
  cases hs with
  | cons _ _ o _ ho hi he hs =>
   have hisz:i<all.size:=by
    obtain ⟨h,_⟩:=Array.getElem?_eq_some_iff.1 ho; exact h
   have hat:∀ k (hk:k<all.size),all[k]?=some (all[k]'hk):=fun k hk=>by simp [hk]
   have hcl':∀ k j,j<all.size→j∈done→ahead all k j→k∈done:=fun k j hj hd ha=>closed_ahead hok.edges (D:=fun x=>x∈done) (fun i o h1 h2=>hcl i o h1 h2) hj hd ha
   -- what is ahead of i is done; what i is ahead of is not
   have hpre:∀ k,ahead all k i→k∈done:=fun k ha=>by
    obtain ⟨e,h1,h2,h3⟩:=ahead_edge ho ha
    have hd:=he e h1 h2
    rcases h3 with rfl | ⟨h4,h3⟩
    · exact hd
    · exact hcl' k e.on (by omega) hd h3
   have hpost:∀ k,k<all.size→ahead all i k→k∉done:=fun k hk ha hd=>hi (hcl' i k hk hd ha)
   have haheadlt:∀ {k j},j<all.size→ahead all k j→k<j:=fun h1 h2=>ahead_lt hok.edges h1 h2
   have hip:i∉pend:=fun q=>hi (hI.sub i q)
   have loudK:∀ {k o},all[k]?=some o→loudAt P md all k=loudOp P md o.op:=fun h=>by simp [loudAt,h]
   -- what a pending making has made, i does not name
   have hpn:∀ k,k∈pend→∀ u,(all[k]?).bind (·.dst)=some u→u∉opTmps all o:=by
    intro k hk u hku hu
    obtain ⟨k2,h1,h2,h3⟩:=hset k hk
    obtain ⟨m,q1,q2,q3,_⟩:=gap hset h2 h3
    obtain ⟨o2,e2,_,_,r1,r2,_⟩:=hI.at0 k hk
    have hksz:=hlt k (hI.sub k hk)
    rcases hok.pair m k _ o2 (by omega) (hat m (by omega)) r1 with h4 | ⟨h4,_⟩
    · exact q3 (hcl' m k hksz (hI.sub k hk) h4)
    · rcases h4 with h4 | ⟨_,h4⟩
      · rw [← loudK (hat m (by omega)),q2,r2] at h4; cases h4
      · rw [r1] at hku
        exact q3 (hpre m ((h4 i o u ho hku).1 hu))
   -- the temporaries that it names
   have hnames:∀ u,u∈opTmps all o→∀ x,(TDf all (Vp V pend) t0 (fun k=>done.contains k) all.size).getD u x=(T i).getD u x:=by
    intro u hu x
    have e1:(TDf all V t0 (fun k=>decide (k<i)) all.size).getD u x=(T i).getD u x:=by
     rw [← TDf_all hT0 (fun m o ho=>(hstep m o ho).1) i (by omega)]
     have:∀ n,i≤n→TDf all V t0 (fun k=>decide (k<i)) n=TDf all V t0 (fun k=>decide (k<i)) i:=by
       intro n
       induction n with
       | zero => intro h; have : i = 0 := by omega
                 rw [this]
       | succ n ihn =>
         intro h
         by_cases e:i=n+1
         · rw [e]
         · have:¬ n<i:=by omega
           simp only [TDf,this,decide_false,Bool.false_eq_true,if_false]
           exact ihn (by omega)
     rw [this all.size (by omega)]
     exact TDf_get x i fun k hk _=>by simp [hk]
    rw [← e1]
    refine TDf_get2 x all.size fun k hk hdst=>⟨?_,fun _=>?_⟩
    · rw [hat k hk] at hdst
      simp only [Option.bind_some] at hdst
      by_cases e:k=i
      · subst e; simp [hi]
      · rcases Nat.lt_or_gt_of_ne e with h | h
        · rcases hok.pair k i _ o h (hat k hk) ho with h1 | ⟨_,h1,_⟩
          · simp [hpre k h1,h]
          · exact absurd hu (h1 u hdst).1
        · rcases hok.pair i k o _ h ho (hat k hk) with h1 | ⟨_,_,h1⟩
          · have:¬ k<i:=by omega
            simp [hpost k hk h1,this]
          · exact absurd hu (h1 u hdst)
    · have:pend.contains k=false:=by
       cases hq:pend.contains k with
       | false=>rfl
       | true=>exact absurd hu (hpn k (by simpa using hq) u hdst)
      simp only [Vp]; rw [this]; rfl
   have hev:∀ x∈o.op.operands.toList,evalO (T i) x=evalO (TDf all (Vp V pend) t0 (fun k=>done.contains k) all.size) x:=by
    intro x hx
    cases x with
    | tmp u =>
     refine (hnames u ?_ _).symm
     simp only [opTmps,List.mem_append,List.mem_filterMap]
     exact .inl ⟨.tmp u,hx,rfl⟩
    | _=>rfl
   -- the temporaries behind it
   have hnextV:∀ W:Nat→Value,TDf all W t0 (fun k=>(i::done).contains k) all.size=setD (TDf all W t0 (fun k=>done.contains k) all.size) o.dst (W i):=by
    intro W
    refine list_eq (by rw [setD_len,TDf_len,TDf_len]) fun u=>?_
    rw [setD_get]
    by_cases e:o.dst=some u∧u<(TDf all W t0 (fun k=>done.contains k) all.size).length
    · rw [if_pos e]
      refine TDf_last dc (by rw [TDf_len] at e; exact e.2) (by rw [ho]; exact e.1) (by simp) all.size hisz fun k h1 h2 h3=>?_
      rw [hat k h2] at h3
      simp only [Option.bind_some] at h3
      rcases hok.pair i k o _ h1 ho (hat k h2) with h4 | ⟨_,h4,_⟩
      · have h5:=hpost k h2 h4
        have:k≠i:=by omega
        simp [h5,this]
      · exact absurd h3 (h4 u e.1).2
    · rw [if_neg e]
      by_cases hu:u<t0.length
      · refine TDf_get dc all.size fun k hk h3=>?_
        have:k≠i:=fun e2=>by
         subst e2
         rw [ho] at h3
         exact e ⟨h3,by rw [TDf_len]; exact hu⟩
        simp [this]
      · have h4:∀ p,(TDf all W t0 p all.size).getD u dc=dc:=fun p=>by
         simp [List.getD,List.getElem?_eq_none (show (TDf all W t0 p all.size).length≤u by rw [TDf_len]; omega)]
        rw [h4,h4]
   have hVi:Vp V pend i=V i:=by simp [Vp,hip]
   have hnext:∀ E' (a':Act),LRel E' (setD (TDf all (Vp V pend) t0 (fun k=>done.contains k) all.size) o.dst (V i)) a'.tmps.toList→LRel E' (TDf all (Vp V pend) t0 (fun k=>(i::done).contains k) all.size) a'.tmps.toList:=by
    intro E' a' h
    rw [hnextV,hVi]; exact h
   -- how many loud ones are done
   have hla:loudAt P md all i=loudOp P md o.op:=loudK ho
   have hnopend:∀ k,k∈pend→makesAt all k=true:=fun k hk=>by
    obtain ⟨o2,e2,_,_,r1,r2,r3,_⟩:=hI.at0 k hk
    simp [makesAt,r1,makesOp,r2,r3]
   have heffd:∀ {k},effOf done pend k=true→k∈done:=fun {k} h=>by
    unfold effOf at h
    simp only [Bool.and_eq_true] at h
    simpa using h.1
   have hlo:loLoud P md all i≤effN P md all done pend:=by
    refine List.countP_mono_left fun k hk h=>?_
    simp only [Bool.and_eq_true,Bool.not_eq_true'] at h ⊢
    refine ⟨h.1,?_⟩
    have h1:=hpre k h.2.2
    have h2:k∉pend:=fun q=>by rw [hnopend k q] at h; exact absurd h.2.1 (by simp)
    simp [effOf,h1,h2]
   have hhi:effN P md all done pend≤hiLoud P md all i:=by
    refine List.countP_mono_left fun k hk h=>?_
    simp only [Bool.and_eq_true,Bool.not_eq_true'] at h ⊢
    refine ⟨h.1,?_⟩
    cases hb:((Region.before all).getD k 0).testBit i with
    | false=>rfl
    | true=>exact absurd (heffd h.2) (hpost k (by simpa using hk) hb)
   have hlo2:loLoud P md all i≤lc P md all i:=by
    refine List.countP_mono_left fun k hk h=>?_
    simp only [Bool.and_eq_true] at h ⊢
    exact ⟨h.1,by simpa using haheadlt hisz h.2.2⟩
   have hhi2:lc P md all i≤hiLoud P md all i:=by
    refine List.countP_mono_left fun k hk h=>?_
    simp only [Bool.and_eq_true,Bool.not_eq_true',decide_eq_true_eq] at h ⊢
    refine ⟨h.1,?_⟩
    cases hb:((Region.before all).getD k 0).testBit i with
    | false=>rfl
    | true=>have:=haheadlt (by simpa using hk) hb; omega
   have hloud:loudOp P md o.op=true→(∀ k,k<i→loudAt P md all k=true→effOf done pend k=true)→effN P md all done pend=lc P md all i:=by
    intro hl hall
    refine List.countP_congr fun k hk=>?_
    have hk:k<all.size:=by simpa using hk
    cases hlk:loudAt P md all k with
    | false=>rfl
    | true =>
     by_cases h:k<i
     · simp [hall k h hlk,h]
     · have:effOf done pend k=false:=by
         cases hq:effOf done pend k with
         | false=>rfl
         | true =>
           by_cases e:k=i
           · subst e; exact absurd (heffd hq) hi
           · exact absurd (heffd (hI.pre k hk hlk hq i (by omega) (by rw [hla]; exact hl))) hi
       simp [this,h]
   -- a loud one that comes too early is a making
   have hmakes:loudOp P md o.op=true→(¬ ∀ k,k<i→loudAt P md all k=true→effOf done pend k=true)→makesOp o=true∧∀ k z d,all[k]?=some z→o.dst=some d→k≠i→z.dst≠some d:=by
    intro hl hno
    have:∃ k,k<i∧loudAt P md all k=true∧effOf done pend k=false:=by
     apply Classical.byContradiction
     intro hno2
     refine hno fun k h1 h2=>?_
     cases hq:effOf done pend k with
     | true=>rfl
     | false=>exact absurd ⟨k,h1,h2,hq⟩ hno2
    obtain ⟨k,h1,h2,h3⟩:=this
    obtain ⟨m,q1,q2,q3,_⟩:=gap hset h2 h3
    rcases hok.pair m i _ o (by omega) (hat m (by omega)) ho with h4 | ⟨h4,_⟩
    · exact absurd (hpre m h4) q3
    · rcases h4 with h4 | ⟨h5,h4⟩
      · rw [← loudK (hat m (by omega)),q2,hl] at h4; cases h4
      · exact ⟨h5,fun k z d a b c=>(h4 k z d a b).2 c⟩
   obtain ⟨hTn,hstp⟩:=hstep i o ho
   -- the guard
   have hgd:∀ b,guardD all o (T i)=some b→Region.wanted o (yielded all a.tmps)=b:=by
    intro b hb
    unfold guardD at hb
    split at hb
    next hg=>injection hb with hb; subst hb; simp [Region.wanted,hg]
    next j bb hg =>
     split at hb
     next=>cases hb
     next d hdst =>
       have hud:d∈opTmps all o:=by simp [opTmps,hg,hdst]
       have hn:=hnames d hud dc
       have hwant:Region.wanted o (yielded all a.tmps)=(yielded all a.tmps j == some bb):=by simp [Region.wanted,hg]
       have hy:∀ v,a.tmps[d]?=some v→yielded all a.tmps j=match v with | .bool b=>some b | _=>none:=fun v hv=>by
         simp only [yielded,hdst,Option.bind_some,hv]
         cases v <;> rfl
       split at hb
       next x hx =>
         injection hb with hb; subst hb
         rw [hx] at hn
         obtain ⟨v',hv',hr⟩:=getD_tmps hI.T hn (by simp [dc])
         have:=hr.bool_inv
         subst this
         rw [hwant,hy _ hv']
         cases x <;> cases bb <;> rfl
       next vs hx =>
         split at hb
         next hem =>
           injection hb with hb; subst hb
           have hvs:vs=#[]:=by simpa using hem
           subst hvs
           rw [hx] at hn
           obtain ⟨v',hv',hr⟩:=getD_tmps hI.T hn (by simp [dc])
           have hv2:v'=.tuple #[]:=flat_rel (by simp [flat]) hr
           subst hv2
           rw [hwant,hy _ hv']; rfl
         next=>cases hb
       next=>cases hb
   have hcl2:∀ j o2,j∈i::done→all[j]?=some o2→∀ e∈o2.after.toList,Region.binds .any e=true→e.on∈i::done:=by
    intro j o2 hj ho2 e h1 h2
    cases hj with
    | head =>
     rw [ho] at ho2
     injection ho2 with ho2
     subst ho2
     exact List.mem_cons_of_mem _ (he e h1 h2)
    | tail _ hj=>exact List.mem_cons_of_mem _ (hcl j o2 hj ho2 e h1 h2)
   have hlt2:∀ j∈i::done,j<all.size:=fun j hj=>by
    cases hj with
    | head=>exact hisz
    | tail _ hj=>exact hlt j hj
   have goOn:∀ {pend' bk' E' a' w'},PInv P md all V t0 ST B E0 w0 (i::done) pend' bk' E' a' w'→wpOpsIn (FW lb) 0 P all Q todo a' w':=by
    intro pend' bk' E' a' w' h
    obtain ⟨pend2,E2,h2,h3⟩:=settle hST hstep pend'.length pend' E' (Nat.le_refl _) h
    exact ih (i::done) hs hcl2 hlt2 pend2 bk' E2 a' w' h2 h3
   simp only [wpOpsIn,ho]
   -- the state in which the machine stands
   have hdl:∃ zz,ST[effN P md all done pend]?=some zz:=by
    have h1:effN P md all done pend≤lc P md all all.size:=by
     refine List.countP_mono_left fun k hk h=>?_
     simp only [Bool.and_eq_true] at h ⊢
     exact ⟨h.1,by simpa using hk⟩
    obtain ⟨h2,_⟩:=List.getElem?_eq_some_iff.1 (hST all.size (Nat.le_refl _))
    exact ⟨_,List.getElem?_eq_getElem (by omega)⟩
   obtain ⟨zz,hzz⟩:=hdl
   have hWzz:=hI.W zz hzz
   rcases hstp with ⟨hg,hy⟩ | ⟨hg,hv,hs'⟩
   · rw [if_pos (hgd true hg)]
     cases hlq:loudOp P md o.op with
     | true =>
      by_cases hgap:∀ k,k<i→loudAt P md all k=true→effOf done pend k=true
      · have hSi:zz=S i:=by
         rw [hloud hlq hgap,hST i (by omega)] at hzz
         injection hzz with hzz; exact hzz.symm
        subst hSi
        have hrun:opK P md C o (TDf all (Vp V pend) t0 (fun k=>done.contains k) all.size) (S i) (fun v s=>some (v,s))=some (V i,S (i+1)):=by
         rw [← opK_congr hev]; exact hy _ _
        refine oper_sound hWzz hC hI.T hI.D hrun Q _ fun v s' E' v' w' hk hv' hW' hK' hD' hT'=>?_
        injection hk with hk
        injection hk with hk1 hk2
        subst hk1 hk2
        refine goOn (hI.after ho hi (hnext _ _ (putT hT' o.dst hv')) (fun z2 h2=>?_) hK' hD' (fun _=>hgap))
        rw [hla,hlq,if_pos rfl,hloud hlq hgap] at h2
        have h3:=hST (i+1) (by omega)
        rw [lc_succ all i hisz,hla,hlq,if_pos rfl] at h3
        rw [h3] at h2
        injection h2 with h2
        subst h2
        exact hW'
      · obtain ⟨hmk,hun⟩:=hmakes hlq hgap
        unfold makesOp at hmk
        split at hmk
        next e hop hgn =>
         have hall:∃ l,zeroD P e=some l:=by
           have h1:=hy _ (fun v s=>some (v,s))
           unfold opK at h1
           rw [hop] at h1
           have h1:(allocD P (S i) e).bind (fun p=>some (p.1,p.2))=some (V i,S (i+1)):=h1
           obtain ⟨p,hp,_⟩:=bsome h1
           unfold allocD at hp
           obtain ⟨l,hl,_⟩:=msome hp
           exact ⟨l,hl⟩
         obtain ⟨l,hz⟩:=hall
         refine early_sound hop hz Q _ fun cells hlen hl=>?_
         refine goOn (hI.ahead hzz ho hop hgn hz hlen hl hun hi ?_)
         have e1:TDf all (Vp V (i::pend)) t0 (fun k=>done.contains k) all.size=TDf all (Vp V pend) t0 (fun k=>done.contains k) all.size:=by
           refine list_eq (by rw [TDf_len,TDf_len]) fun u=>TDf_get2 dc all.size fun k hk _=>⟨rfl,fun hd=>?_⟩
           have:k≠i:=fun q=>by subst q; exact hi (by simpa using hd)
           simp [Vp,this]
         rw [hnextV,e1]
         have e2:Vp V (i::pend) i=dc:=by simp [Vp]
         rw [e2]
         exact putT hI.T o.dst (VRel.dc _)
        next=>cases hmk
     | false =>
      obtain ⟨hqv,hss⟩:=quiet_val hlq (hy _ (fun v s=>some (v,s)))
      have hqzz:quietVal P o.op (T i) zz=some (V i):=by
       by_cases hr:readsOp P o.op=true
       · by_cases hlh:loLoud P md all i<hiLoud P md all i
         · have hh:=hsaid i o ho hg hr hlq hlh
           have hmem:zz∈(ST.take (hiLoud P md all i+1)).drop (loLoud P md all i):=by
             obtain ⟨h1,h2⟩:=List.getElem?_eq_some_iff.1 hzz
             refine List.mem_of_getElem? (i:=effN P md all done pend-loLoud P md all i) ?_
             rw [List.getElem?_drop,Nat.add_sub_cancel' hlo,List.getElem?_take_of_lt (by omega)]
             exact hzz
           have:=List.all_eq_true.1 hh zz hmem
           simp only [eqO] at this
           split at this
           next u v hu=>rw [hu,H.eqv_ok _ _ this]
           next=>cases this
         · have:zz=S i:=by
             have e:effN P md all done pend=lc P md all i:=by omega
             rw [e,hST i (by omega)] at hzz
             injection hzz with hzz; exact hzz.symm
           rw [this]; exact hqv
       · rw [quiet_free hlq (by simpa using hr) (T i) zz (S i)]; exact hqv
      have hrun:opK P md C o (TDf all (Vp V pend) t0 (fun k=>done.contains k) all.size) zz (fun v s=>some (v,s))=some (V i,zz):=by
       rw [← opK_congr hev]; exact quiet_run hlq hqzz
      refine oper_sound hWzz hC hI.T hI.D hrun Q _ fun v s' E' v' w' hk hv' hW' hK' hD' hT'=>?_
      injection hk with hk
      injection hk with hk1 hk2
      subst hk1 hk2
      refine goOn (hI.after ho hi (hnext _ _ (putT hT' o.dst hv')) (fun z2 h2=>?_) hK' hD' (fun h=>by rw [hla,hlq] at h; cases h))
      rw [hla,hlq,if_neg (by simp),Nat.add_zero,hzz] at h2
      injection h2 with h2
      subst h2
      exact hW'
   · rw [if_neg (by rw [hgd false hg]; simp)]
     have hgap:loudOp P md o.op=true→∀ k,k<i→loudAt P md all k=true→effOf done pend k=true:=by
      intro hl
      apply Classical.byContradiction
      intro hno
      obtain ⟨hmk,_⟩:=hmakes hl hno
      unfold makesOp at hmk
      split at hmk
      next e hop hgn=>simp [guardD,hgn] at hg
      next=>cases hmk
     refine ⟨fun f _=>FW_fn lb f,goOn (hI.after ho hi (hnext _ _ ?_) (fun z2 h2=>?_) (.refl E w) hI.D (fun h=>hgap (by rw [← hla]; exact h)))⟩
     · rw [hv]; exact putT hI.T o.dst (VRel.undef E)
     · cases hlq:loudOp P md o.op with
       | false =>
        rw [hla,hlq,if_neg (by simp),Nat.add_zero] at h2
        exact hI.W z2 h2
       | true =>
        rw [hla,hlq,if_pos rfl,hloud hlq (hgap hlq)] at h2
        have h3:=hST (i+1) (by omega)
        rw [lc_succ all i hisz,hla,hlq,if_pos rfl] at h3
        rw [h3] at h2
        injection h2 with h2
        subst h2
        rw [hs']
        exact hI.W _ (by rw [hloud hlq (hgap hlq)]; exact hST i (by omega))
theorem draw_sound {X:Type} {B:Nat} {C:Oracle H} (hC:COk P C) (hmix:P.follows .mixedOrders=true) {lb:Option Nat} {id:Nat} {ops:Array Oper} (hok:regionOk P md ops=true) {K:Ex→List Value→St H→Option (List X)} {r:List X} {E:Env} {s:St H} {w:World} {t:List Value} {a:Act}
 (hW:WRel E s w) (hT:LRel E t a.tmps.toList) (hD:DefOk B E w a.defers) (h:opsDK P md C ops 0 ops.toList t s [s] [] (K .normal)=some r):(Code.region id ops true).wpIn (FW lb) 0 P (Post B K r E w) a w:=by
 have hreg:=regOk_of hok
 refine wpIn_region_draw fun tt=>?_
 rw [hmix]
 have hlc0:lc P md ops 0=0:=by simp [lc]
 obtain ⟨T,S,V,ST,h1,h2,h3,h4,h5,h6,_,h8⟩:=trace (P:=P) (C:=C) ops.toList 0 (by simp) (Nat.zero_le _) t s [s] [] h (by rw [hlc0]; rfl) rfl
 have hTD:TDf ops (Vp V []) t (fun k=>([]:List Nat).contains k) ops.size=t:=by
  have:∀ n,TDf ops (Vp V []) t (fun k=>([]:List Nat).contains k) n=t:=by
   intro n
   induction n with
   | zero=>rfl
   | succ n ih=>simpa [TDf] using ih
  exact this _
 refine draw_sim (B:=B) hC hreg h1 (fun m hm=>h4 m (Nat.zero_le _) hm) (fun m o ho=>h5 m o (Nat.zero_le _) ho) (fun m o ho=>h8 m o (Nat.zero_le _) ho) _ (E0:=E) (w0:=w) (fun E' a' w' q1 q2 q3 q4=>⟨.normal,_,_,E',trivial,.of h6,q1,q2,q3,q4⟩) _ [] (schedule_ok hreg.edges tt) (fun i o hi=>by cases hi) (fun i hi=>by cases hi) [] (fun _=>0) E a w.drew
  ⟨by rw [hTD]; exact hT,fun zz hzz=>?_,Keep.drew E w,hD.keep (Keep.drew E w),fun j hj=>(by cases hj),List.nodup_nil,fun k hk hl he=>(by simp [effOf] at he),fun j hj=>(by cases hj),fun j hj=>(by cases hj)⟩ (fun j hj=>by cases hj)
 have:effN P md ops [] []=0:=by simp [effN,effOf]
 rw [this] at hzz
 have h0:=h4 0 (Nat.zero_le _) (Nat.zero_le _)
 rw [hlc0,h2] at h0
 rw [h0] at hzz
 injection hzz with hzz
 subst hzz
 exact hW.drew
end Go.FS
