import Derived.Test.YtmhmbmogodofeaaFj
import Derived.LoopNIn
namespace Go.FS
open Go.RowKit
variable {P:Program} {md:Bool} {H:HeapI} {R:Type}
def FW (lb:Option Nat):Fence:={ Fence.wide with round:=lb }
theorem FW_fn (lb:Option Nat) (f:FuncId):(FW lb).fn f:=trivial
theorem FW_depth (lb:Option Nat):(FW lb).depth=none:=rfl
theorem FW_calls {lb:Option Nat} {f:FuncId} {args:Array Value} {w:World} {Q:Ending→World→Prop} (h:CallsIn (FW none) 0 P f args w Q):CallsIn (FW lb) 0 P f args w Q:=h
theorem FW_round {lb:Option Nat} {l:Nat} {f:FuncId} {t:Array Value} {as bo:Code} {w:World} {Q:Ending→World→Prop} (h:RoundIn (FW none) 0 P l f t as bo w Q):RoundIn (FW lb) 0 P l f t as bo w Q:=h
def Ans (E:Env) (w:World) (v:Value) (s':St H) (v':Value) (w':World):Prop:=∃ E',VRel E' v v'∧WRel E' s' w'∧Keep E w E' w'
def AnsE (Q:Value→World→Prop):Ending→World→Prop
 | .returned v,w=>Q v w
 | _,_=>False
def FnOk (P:Program) (f:FuncId) (args:Array Value) (w:World) (Q:Value→World→Prop):Prop :=
 ((callFunc f args).run P w=.ok (.enter f args) w∧CallsIn (FW none) 0 P f args w (AnsE Q))∨∃ v w',(callFunc f args).run P w=.ok (.value v) w'∧Q v w'
def YldOk (P:Program) (lb:Nat) (args:Array Value) (w:World) (Q:Value→World→Prop):Prop :=
 ∃ fn t as bo,(Instr.yield lb args).run P w=.ok (.round lb fn t as bo) w∧RoundIn (FW none) 0 P lb fn t as bo w (AnsE Q)
def COk (P:Program) (C:Oracle H):Prop:=∀ g args s v s',C g args s=some (v,s')→∀ E w (args':Array Value),WRel E s w→LRel E args args'.toList →
 match g with
 | .fn f=>FnOk P f args' w (Ans E w v s')
 | .yld l=>l<E.n→YldOk P (E.blk l) args' w (Ans E w v s')
def AnsL (E:Env) (w:World) (L:List (Value×St H)) (v':Value) (w':World):Prop:=∃ p∈L,Ans E w p.1 p.2 v' w'
def COkJ (P:Program) (C:OracleJ H):Prop:=∀ g args s L,C g args s=some L→∀ E w (args':Array Value),WRel E s w→LRel E args args'.toList →
 match g with
 | .fn f=>FnOk P f args' w (AnsL E w L)
 | .yld l=>l<E.n→YldOk P (E.blk l) args' w (AnsL E w L)
theorem AnsE.mono {Q Q':Value→World→Prop} (h:∀ v w,Q v w→Q' v w):∀ e w,AnsE Q e w→AnsE Q' e w:=fun e w hq=>by
 cases e with
 | returned v=>exact h v w hq
 | panicked c=>exact hq.elim
 | outgrown=>exact hq.elim
theorem FnOk.mono {f:FuncId} {args:Array Value} {w:World} {Q Q':Value→World→Prop} (h:FnOk P f args w Q) (hq:∀ v w,Q v w→Q' v w):FnOk P f args w Q':=by
 rcases h with ⟨h1,h2⟩ | ⟨v,w',h1,h2⟩
 · exact .inl ⟨h1,h2.mono (AnsE.mono hq)⟩
 · exact .inr ⟨v,w',h1,hq _ _ h2⟩
theorem YldOk.mono {l:Nat} {args:Array Value} {w:World} {Q Q':Value→World→Prop} (h:YldOk P l args w Q) (hq:∀ v w,Q v w→Q' v w):YldOk P l args w Q':=by
 obtain ⟨fn,t,as,bo,h1,h2⟩:=h
 exact ⟨fn,t,as,bo,h1,h2.mono (AnsE.mono hq)⟩
theorem one_ok {C:OracleJ H} (hC:COkJ P C):COk P (oneO C):=by
 intro g args s v s' h E w args' hW hA
 have key:C g args s=some [(v,s')]:=by
  unfold oneO at h
  split at h
  next p hp=>injection h with h; subst h; exact hp
  next=>cases h
 have:=hC g args s _ key E w args' hW hA
 have one:∀ v' w',AnsL E w [(v,s')] v' w'→Ans E w v s' v' w':=fun v' w' ⟨p,hp,hq⟩=>by
  simp only [List.mem_singleton] at hp
  subst hp; exact hq
 cases g with
 | fn f=>exact FnOk.mono this one
 | yld l=>exact fun hl=>(this hl).mono one
theorem joinO_mem {X:Type}:∀ {l:List (Option (List X))} {r:List X},joinO l=some r→∀ x∈l,∃ r',x=some r'∧∀ y∈r',y∈r
 | [],_,_,x,hx=>by cases hx
 | none::_,_,h,_,_=>by cases h
 | some a::l,r,h,x,hx=>by
  obtain ⟨q,hq,h⟩:=msome h
  subst h
  cases hx with
  | head=>exact ⟨a,rfl,fun y hy=>List.mem_append_left _ hy⟩
  | tail _ hx =>
   obtain ⟨r',h1,h2⟩:=joinO_mem hq x hx
   exact ⟨r',h1,fun y hy=>List.mem_append_right _ (h2 y hy)⟩
theorem manyK_mem {X:Type} {L:List (Value×St H)} {k:Value→St H→Option (List X)} {r:List X} (h:manyK L k=some r) {p:Value×St H} (hp:p∈L):∃ r',(∀ y∈r',y∈r)∧k p.1 p.2=some r':=by
 unfold manyK at h
 split at h
 next q =>
  simp only [List.mem_singleton] at hp
  subst hp
  exact ⟨r,fun _ h=>h,h⟩
 next =>
  obtain ⟨r',h1,h2⟩:=joinO_mem h _ (List.mem_map_of_mem hp)
  exact ⟨r',h2,h1⟩
def DefOk (B:Nat) (E:Env) (w:World):List Deferred→Prop
 | []=>True
 | d::ds=>(∃ r,d.target=.collected r∧B≤r∧w.heap[r]?=some (.deferred (some []))∧((∀ j,j<E.n→E.own j=true→E.blk j≠r)∧E.tb r=false)∧∀ d2∈ds,d2.target≠.collected r)∧DefOk B E w ds
theorem DefOk.keep {B:Nat} {E E':Env} {w w':World} (hK:Keep E w E' w'):∀ {ds:List Deferred},DefOk B E w ds→DefOk B E' w' ds
 | [],_=>trivial
 | d::ds,⟨⟨r,h1,h2,h3,h4,h5⟩,h⟩=>by
  have hr:r<w.heap.size:=by
   rcases Nat.lt_or_ge r w.heap.size with h | h
   · exact h
   · simp [Array.getElem?_eq_none h] at h3
  refine ⟨⟨r,h1,h2,(hK.block r hr h4.1 h4.2).trans h3,⟨fun j hj ho e=>?_,?_⟩,h5⟩,DefOk.keep hK h⟩
  · by_cases hj':j<E.n
    · exact h4.1 j hj' ((hK.le.own j hj') ▸ ho) ((hK.le.blk j hj') ▸ e)
    · rcases hK.fresh j (by omega) hj ho with ⟨j2,a1,a2,a3⟩ | a1
      · exact h4.1 j2 a1 a2 (a3.trans e)
      · omega
  · cases hq:E'.tb r with
    | false=>rfl
    | true =>
     exfalso
     rcases hK.tbf r hq with h | ⟨j,a1,a2,a3⟩ | h
     · rw [h4.2] at h; cases h
     · exact h4.1 j a1 a2 a3
     · omega
def ExRel:Ex→Exit→Prop
 | .normal,.normal=>True
 | .exit i,.exit j=>i=j
 | .ret,.ret=>True
 | _,_=>False
def Kin {X:Type} (K:Ex→List Value→St H→Option (List X)) (ex:Ex) (t:List Value) (s:St H) (r:List X):Prop:=∃ r',(∀ y∈r',y∈r)∧K ex t s=some r'
theorem Kin.of {X:Type} {K:Ex→List Value→St H→Option (List X)} {ex:Ex} {t:List Value} {s:St H} {r:List X} (h:K ex t s=some r):Kin K ex t s r:=⟨r,fun _ h=>h,h⟩
def Post {X:Type} (B:Nat) (K:Ex→List Value→St H→Option (List X)) (r:List X) (E:Env) (w:World) (e:Exit) (a:Act) (w':World):Prop :=
 ∃ ex t' s' E',ExRel ex e∧Kin K ex t' s' r∧LRel E' t' a.tmps.toList∧WRel E' s' w'∧Keep E w E' w'∧DefOk B E' w' a.defers
theorem Post.sub {X:Type} {B:Nat} {K:Ex→List Value→St H→Option (List X)} {r r1:List X} {E:Env} {w:World} {e:Exit} {a:Act} {w':World} (hs:∀ y∈r1,y∈r) (h:Post B K r1 E w e a w'):Post B K r E w e a w':=by
 obtain ⟨ex,t',s',E',h1,⟨r',q1,q2⟩,h3,h4,h5,h6⟩:=h
 exact ⟨ex,t',s',E',h1,⟨r',fun y hy=>hs y (q1 y hy),q2⟩,h3,h4,h5,h6⟩
theorem Post.back {X:Type} {B:Nat} {K:Ex→List Value→St H→Option (List X)} {r:List X} {E E1:Env} {w w1:World} {e:Exit} {a:Act} {w':World} (hK:Keep E w E1 w1) (h:Post B K r E1 w1 e a w'):Post B K r E w e a w':=by
 obtain ⟨ex,t',s',E',h1,h2,h3,h4,h5,h6⟩:=h
 exact ⟨ex,t',s',E',h1,h2,h3,h4,hK.trans h5,h6⟩
theorem putT {E:Env} {t:List Value} {a:Act} (hT:LRel E t a.tmps.toList) (d:Option Tmp) {v v':Value} (hv:VRel E v v'):LRel E (setD t d v) (a.put d v').tmps.toList:=by
 cases d with
 | none=>exact hT
 | some d =>
  show LRel E (t.set d v) (a.tmps.setIfInBounds d v').toList
  rw [Array.toList_setIfInBounds]; exact hT.set d hv
theorem putDef (a:Act) (d:Option Tmp) (v:Value):(a.put d v).defers=a.defers:=by cases d <;> rfl
theorem oper_sound {B:Nat} {E:Env} {s:St H} {w:World} (hW:WRel E s w) {C:Oracle H} (hC:COk P C) {lb:Option Nat} {o:Oper} {t:List Value} {a:Act} (hT:LRel E t a.tmps.toList) (hD:DefOk B E w a.defers) {k:Value→St H→Option R} {r:R}
 (h:opK P md C o t s k=some r) (Q:Exit→Act→World→Prop) (next:Act→World→Prop)
 (hn:∀ v s' E' v' w',k v s'=some r→VRel E' v v'→WRel E' s' w'→Keep E w E' w'→DefOk B E' w' a.defers→LRel E' t a.tmps.toList→next (a.put o.dst v') w'):o.wpIn (FW lb) 0 P a w next Q:=by
 refine ⟨fun f _=>FW_fn lb f,?_⟩
 have quiet:(∃ v s',k v s'=some r∧Hands P E w o a v s')→o.uponIn (FW lb) 0 P a next Q ((o.semAt (FW lb).round a.eval).run P w):=by
  rintro ⟨v,s',hk,E',w',hW',hK,hh⟩
  have hsem:o.semAt (FW lb).round a.eval=execOp a.eval o:=by
   refine Oper.semAt_eq _ _ _ (fun c hc=>?_)
   rcases hh with ⟨v',h1,_⟩ | ⟨h1,_⟩ <;>
   · obtain ⟨dst,op,ty,pos,after,guard⟩:=o
     simp only at hc
     subst hc
     simp only [execOp,Sem.run_bind] at h1
     cases hr:(resolve a.eval c ty).run P w with
     | ok d w2=>rw [hr] at h1; cases h1
     | halt d w2=>rw [hr] at h1; cases h1
  rw [hsem]
  rcases hh with ⟨v',h1,h2⟩ | ⟨h1,rfl⟩
  · rw [h1]; exact hn v s' E' v' w' hk h2 hW' hK (hD.keep hK) (hT.mono hK.le)
  · rw [h1]; exact hn undefV s' E' _ w' hk (VRel.undef E') hW' hK (hD.keep hK) (hT.mono hK.le)
 by_cases hcall:∃ c f,o.op=.call c∧c.callee=.value f
 · obtain ⟨c,f,hop,hcf⟩:=hcall
   obtain ⟨dst,op,ty,pos,after,guard⟩:=o
   obtain ⟨callee,args,ats⟩:=c
   simp only at hop hcf
   subst hop hcf
   have h':(tgtD (evalO t f) (args.toList.map (evalO t))).bind (fun g=>(C g.1 g.2 s).bind fun p=>k p.1 p.2)=some r:=h
   obtain ⟨g,hg,h3⟩:=bsome h'
   obtain ⟨p,hp,hk⟩:=bsome h3
   clear h' h3
   rw [Oper.semAt_eq _ _ _ (fun c hc=>by cases hc)]
   have hf:=eval_rel hT f
   have ha:=eval_list hT args.toList
   generalize evalO t f=fv at hf hg
   have hres:(execOp a.eval { dst:=dst,op:=.call { callee:=.value f,args:=args,argTypes:=ats },type:=ty,pos:=pos,after:=after,guard:=guard }).run P w =
    ((Deferred.ofValue (a.eval f) (args.map a.eval)).run P w).andThen fun d w=>(invoke d.target d.args).run P w:=by
    simp only [execOp,resolve,Sem.run_bind]
   rw [hres]
   generalize a.eval f=fv' at hf
   unfold tgtD at hg
   split at hg
   · -- a function
     rename_i fid first cap
     injection hg with hg
     subst hg
     cases hf with
     | func _ _ first' _ cap' e1 e2 r1 r2 =>
      have hall:LRel E ((first.toList++args.toList.map (evalO t))++cap.toList) ((first'++args.map a.eval)++cap').toList:=by
       rw [Array.toList_append,Array.toList_append,Array.toList_map]
       exact ((LRel.ofArr e1 r1).append ha).append (LRel.ofArr e2 r2)
      have hok:=hC _ _ _ _ _ hp E w _ hW hall
      simp only [Deferred.ofValue,Sem.run_pure,Result.andThen_ok,invoke]
      rcases hok with ⟨h1,h2⟩ | ⟨v',w',h1,E',h2,h3,h4⟩
      · rw [h1]
        refine ⟨fun hd=>by simp [FW_depth] at hd,(FW_calls h2).mono fun e w' hq=>?_⟩
        cases e with
        | returned v' =>
         obtain ⟨E',h2,h3,h4⟩:=hq
         exact hn _ _ E' v' w' hk h2 h3 h4 (hD.keep h4) (hT.mono h4.le)
        | panicked c=>exact hq.elim
        | outgrown=>exact hq.elim
      · rw [h1]
        exact hn _ _ E' v' w' hk h2 h3 h4 (hD.keep h4) (hT.mono h4.le)
   · -- a round
     rename_i l first cap
     injection hg with hg
     subst hg
     cases hf with
     | yld _ hl =>
      have hall:LRel E ((#[]:Array Value).toList++args.toList.map (evalO t)) ((#[]:Array Value)++args.map a.eval).toList:=by
       rw [Array.toList_append,Array.toList_map]
       exact (LRel.nil E).append ha
      obtain ⟨fn,ts,as,bo,h1,h2⟩:=hC _ _ _ _ _ hp E w _ hW hall hl
      simp only [Deferred.ofValue,Sem.run_pure,Result.andThen_ok,invoke]
      rw [h1]
      refine ⟨fun hd=>by simp [FW_depth] at hd,(FW_round h2).mono fun e w' hq=>?_⟩
      cases e with
      | returned v' =>
       obtain ⟨E',h2,h3,h4⟩:=hq
       exact hn _ _ E' v' w' hk h2 h3 h4 (hD.keep h4) (hT.mono h4.le)
      | panicked c=>exact hq.elim
      | outgrown=>exact hq.elim
   · cases hg
 · exact quiet (op_sound hW hT (fun c hc f hf=>hcall ⟨c,f,hc,hf⟩) h)
theorem operJ_sound {X:Type} {B:Nat} {E:Env} {s:St H} {w:World} (hW:WRel E s w) {C:OracleJ H} (hC:COkJ P C) {lb:Option Nat} {o:Oper} {t:List Value} {a:Act} (hT:LRel E t a.tmps.toList) (hD:DefOk B E w a.defers) {k:Value→St H→Option (List X)} {r:List X}
 (h:opJ P md C o t s k=some r) (Q:Exit→Act→World→Prop) (next:Act→World→Prop)
 (hn:∀ v s' E' v' w' r',(∀ y∈r',y∈r)→k v s'=some r'→VRel E' v v'→WRel E' s' w'→Keep E w E' w'→DefOk B E' w' a.defers→LRel E' t a.tmps.toList→next (a.put o.dst v') w'):o.wpIn (FW lb) 0 P a w next Q:=by
 have det:opK P md (oneO C) o t s k=some r→o.wpIn (FW lb) 0 P a w next Q:=fun h =>
  oper_sound hW (one_ok hC) hT hD h Q next fun v s' E' v' w' q1 q2 q3 q4 q5 q6=>hn v s' E' v' w' r (fun _ h=>h) q1 q2 q3 q4 q5 q6
 by_cases hnext:∃ it isS,o.op=.next it isS
 · obtain ⟨it,isS,hop⟩:=hnext
   obtain ⟨dst,op,ty,pos,after,guard⟩:=o
   simp only at hop
   subst hop
   have h':(bif isS then none else nextsD s (evalO t it)).bind (fun L=>manyK L k)=some r:=h
   obtain ⟨L,hL,hm⟩:=bsome h'
   cases isS with
   | true=>cases hL
   | false =>
    obtain ⟨i,hl,E',v',w',hr,hv,hW',hK⟩:=next_ok (P:=P) hW (eval_rel hT it) hL ty
    obtain ⟨r',q1,q2⟩:=manyK_mem hm (List.getElem_mem hl)
    refine ⟨fun f _=>FW_fn lb f,?_⟩
    rw [Oper.semAt_eq _ _ _ (fun c hc=>by cases hc)]
    have hx:(execOp a.eval { dst:=dst,op:=.next it false,type:=ty,pos:=pos,after:=after,guard:=guard }).run P w=.ok (.value v') w':=by
     have hx:execOp a.eval { dst:=dst,op:=.next it false,type:=ty,pos:=pos,after:=after,guard:=guard }=(do pure (.value (← Instr.next (a.eval it) false ty))):=rfl
     rw [hx,Sem.run_bind,hr]; rfl
    rw [hx]
    exact hn _ _ E' v' w' r' q1 q2 hv hW' hK (hD.keep hK) (hT.mono hK.le)
 · by_cases hcall:∃ c f,o.op=.call c∧c.callee=.value f
   · obtain ⟨c,f,hop,hcf⟩:=hcall
     obtain ⟨dst,op,ty,pos,after,guard⟩:=o
     obtain ⟨callee,args,ats⟩:=c
     simp only at hop hcf
     subst hop hcf
     refine ⟨fun f _=>FW_fn lb f,?_⟩
     have h':(tgtD (evalO t f) (args.toList.map (evalO t))).bind (fun g=>(C g.1 g.2 s).bind fun L=>manyK L k)=some r:=h
     obtain ⟨g,hg,h3⟩:=bsome h'
     obtain ⟨L,hp,hm⟩:=bsome h3
     clear h' h3
     have hgo:∀ v' w',AnsL E w L v' w'→next (a.put dst v') w':=by
      rintro v' w' ⟨p,hpL,E',h2,h3,h4⟩
      obtain ⟨r',q1,q2⟩:=manyK_mem hm hpL
      exact hn _ _ E' v' w' r' q1 q2 h2 h3 h4 (hD.keep h4) (hT.mono h4.le)
     rw [Oper.semAt_eq _ _ _ (fun c hc=>by cases hc)]
     have hf:=eval_rel hT f
     have ha:=eval_list hT args.toList
     generalize evalO t f=fv at hf hg
     have hres:(execOp a.eval { dst:=dst,op:=.call { callee:=.value f,args:=args,argTypes:=ats },type:=ty,pos:=pos,after:=after,guard:=guard }).run P w =
       ((Deferred.ofValue (a.eval f) (args.map a.eval)).run P w).andThen fun d w=>(invoke d.target d.args).run P w:=by
      simp only [execOp,resolve,Sem.run_bind]
     rw [hres]
     generalize a.eval f=fv' at hf
     unfold tgtD at hg
     split at hg
     · -- a function
       rename_i fid first cap
       injection hg with hg
       subst hg
       cases hf with
       | func _ _ first' _ cap' e1 e2 r1 r2 =>
        have hall:LRel E ((first.toList++args.toList.map (evalO t))++cap.toList) ((first'++args.map a.eval)++cap').toList:=by
         rw [Array.toList_append,Array.toList_append,Array.toList_map]
         exact ((LRel.ofArr e1 r1).append ha).append (LRel.ofArr e2 r2)
        have hok:=hC _ _ _ _ hp E w _ hW hall
        simp only [Deferred.ofValue,Sem.run_pure,Result.andThen_ok,invoke]
        rcases hok with ⟨h1,h2⟩ | ⟨v',w',h1,h2⟩
        · rw [h1]
          refine ⟨fun hd=>by simp [FW_depth] at hd,(FW_calls h2).mono fun e w' hq=>?_⟩
          cases e with
          | returned v'=>exact hgo v' w' hq
          | panicked c=>exact hq.elim
          | outgrown=>exact hq.elim
        · rw [h1]
          exact hgo v' w' h2
     · -- a round
       rename_i l first cap
       injection hg with hg
       subst hg
       cases hf with
       | yld _ hl =>
        have hall:LRel E ((#[]:Array Value).toList++args.toList.map (evalO t)) ((#[]:Array Value)++args.map a.eval).toList:=by
         rw [Array.toList_append,Array.toList_map]
         exact (LRel.nil E).append ha
        obtain ⟨fn,ts,as,bo,h1,h2⟩:=hC _ _ _ _ hp E w _ hW hall hl
        simp only [Deferred.ofValue,Sem.run_pure,Result.andThen_ok,invoke]
        rw [h1]
        refine ⟨fun hd=>by simp [FW_depth] at hd,(FW_round h2).mono fun e w' hq=>?_⟩
        cases e with
        | returned v'=>exact hgo v' w' hq
        | panicked c=>exact hq.elim
        | outgrown=>exact hq.elim
     · cases hg
   · refine det ?_
     obtain ⟨dst,op,ty,pos,after,guard⟩:=o
     cases op with
     | next it isS=>exact absurd ⟨it,isS,rfl⟩ hnext
     | call c =>
      obtain ⟨callee,args,ats⟩:=c
      cases callee with
      | value f=>exact absurd ⟨_,f,rfl,rfl⟩ hcall
      | _=>rw [← opF_eq]; exact h
     | _=>rw [← opF_eq]; exact h
theorem getD_tmps {E:Env} {t:List Value} {a:Act} (hT:LRel E t a.tmps.toList) {d:Nat} {v:Value} (h:t.getD d dc=v) (hv:v≠dc):∃ v',a.tmps[d]?=some v'∧VRel E v v':=by
 by_cases hd:d<t.length
 · have hd':d<a.tmps.toList.length:=hT.1 ▸ hd
   have:=hT.2 d hd hd'
   refine ⟨a.tmps[d]'(by simpa using hd'),by simp at hd'; simp [hd'],?_⟩
   have e:t.getD d dc=t[d]:=by simp [List.getD,hd]
   rw [← h,e]
   rwa [Array.getElem_toList] at this
 · exfalso; apply hv; rw [← h]; simp [List.getD,List.getElem?_eq_none (Nat.le_of_not_lt hd)]
theorem set_self {E:Env} {t:List Value} {a:Act} (hT:LRel E t a.tmps.toList) {d:Nat} {b:Bool} (h:t.getD d dc=.bool b):LRel E (t.set d (.bool b)) a.tmps.toList:=by
 have hd:d<t.length:=by
  rcases Nat.lt_or_ge d t.length with h2 | h2
  · exact h2
  · simp [List.getD,List.getElem?_eq_none h2,dc] at h
 have e:t[d]=.bool b:=by simpa [List.getD,hd] using h
 have:t.set d (.bool b)=t:=by rw [← e]; exact List.set_getElem_self hd
 rw [this]; exact hT
theorem set_undef {t:List Value} {d:Nat} {vs:Array Value} (h:t.getD d dc=.tuple vs) (hv:vs.toList.isEmpty=true):t.set d undefV=t:=by
 have hd:d<t.length:=by
  rcases Nat.lt_or_ge d t.length with h2 | h2
  · exact h2
  · simp only [List.getD,List.getElem?_eq_none h2,dc,Option.getD_none,Value.tuple.injEq] at h
    subst h; simp at hv
 have e:t[d]=undefV:=by
  have:t[d]=.tuple vs:=by simpa [List.getD,hd] using h
  have hvs:vs=#[]:=by simpa using hv
  rw [this,hvs]; rfl
 rw [← e]; exact List.set_getElem_self hd
theorem ops_sound {X:Type} {B:Nat} {C:OracleJ H} (hC:COkJ P C) {lb:Option Nat} {all:Array Oper} {k:List Value→St H→Option (List X)} (Q:Exit→Act→World→Prop) :
 ∀ (ops:List Oper) (i:Nat),all.toList.drop i=ops→∀ {E:Env} {s:St H} {w:World} {t:List Value} {a:Act} {r:List X},WRel E s w→LRel E t a.tmps.toList→DefOk B E w a.defers→opsK P md C all ops t s k=some r →
 (∀ t' s' E' a' w' r',(∀ y∈r',y∈r)→k t' s'=some r'→LRel E' t' a'.tmps.toList→WRel E' s' w'→Keep E w E' w'→DefOk B E' w' a'.defers→Q .normal a' w') →
 wpOpsIn (FW lb) 0 P all Q (List.range' i ops.length) a w
 | [],i,_,E,s,w,t,a,r,hW,hT,hD,h,hQ=>hQ t s E a w r (fun _ h=>h) h hT hW (.refl E w) hD
 | o::ops,i,hall,E,s,w,t,a,r,hW,hT,hD,h,hQ=>by
  have ho:all[i]?=some o:=by
   have:(all.toList.drop i)[0]?=some o:=by rw [hall]; rfl
   simpa using this
  have hrest:all.toList.drop (i+1)=ops:=by
   rw [← List.tail_drop,hall]; rfl
  have ih:=fun {E s w t a r}=>@ops_sound X B C hC lb all k Q ops (i+1) hrest E s w t a r
  simp only [List.length_cons,List.range'_succ,wpOpsIn,ho]
  have run:∀ t1,LRel E t1 a.tmps.toList→opJ P md C o t1 s (fun v s'=>opsK P md C all ops (setD t1 o.dst v) s' k)=some r→o.wpIn (FW lb) 0 P a w (wpOpsIn (FW lb) 0 P all Q (List.range' (i+1) ops.length)) Q:=by
   intro t1 hT1 h1
   refine operJ_sound hW hC hT1 hD h1 Q _ (fun v s' E' v' w' r1 hsub hk hv hW' hK hD' hT'=>?_)
   refine ih hW' (putT hT' o.dst hv) (by rw [putDef]; exact hD') hk (fun t2 s2 E2 a2 w2 r2 q0 q1 q2 q3 q4 q5=>hQ t2 s2 E2 a2 w2 r2 (fun y hy=>hsub y (q0 y hy)) q1 q2 q3 (hK.trans q4) q5)
  have skip:∀ t1,LRel E t1 a.tmps.toList→opsK P md C all ops (setD t1 o.dst undefV) s k=some r→(∀ f,o.about P w a.eval=some f→(FW lb).fn f)∧wpOpsIn (FW lb) 0 P all Q (List.range' (i+1) ops.length) (a.put o.dst undef) w:=by
   intro t1 hT1 h1
   exact ⟨fun f _=>FW_fn lb f,ih hW (putT hT1 o.dst (VRel.undef E)) (by rw [putDef]; exact hD) h1 hQ⟩
  simp only [opsK,forceL_eq] at h
  split at h
  next hg =>
   have:Region.wanted o (yielded all a.tmps)=true:=by simp [Region.wanted,hg]
   rw [if_pos this]
   exact run t hT h
  next j b hg =>
   split at h
   next=>cases h
   next d hd =>
    have hy:∀ v,a.tmps[d]?=some v→yielded all a.tmps j=match v with | .bool b=>some b | _=>none:=fun v hv=>by
     simp only [yielded,hd,Option.bind_some,hv]
     cases v <;> rfl
    have hwant:Region.wanted o (yielded all a.tmps)=(yielded all a.tmps j == some b):=by simp [Region.wanted,hg]
    split at h
    next x hx =>
     obtain ⟨v',hv',hr⟩:=getD_tmps hT hx (by simp [dc])
     have:=hr.bool_inv
     subst this
     have hy:=hy _ hv'
     simp only at hy
     cases x <;> cases b <;> simp only [cond_true,cond_false] at h
     all_goals
      first
      | (rw [if_pos (by rw [hwant,hy]; rfl)]; exact run _ (set_self hT hx) h)
      | (rw [if_neg (by rw [hwant,hy]; decide)]; exact skip _ (set_self hT hx) h)
    next vs hx =>
     obtain ⟨hc,h⟩:=csome h
     have hvs:vs=#[]:=by simpa using hc
     obtain ⟨v',hv',hr⟩:=getD_tmps hT hx (by subst hvs; simp [dc])
     have hv2:v'=.tuple #[]:=by subst hvs; exact flat_rel (by simp [flat]) hr
     subst hv2
     have hy:=hy _ hv'
     simp only at hy
     rw [if_neg (by rw [hwant,hy]; simp)]
     exact skip _ (by rw [set_undef hx hc]; exact hT) h
    next=>cases h
end Go.FS
