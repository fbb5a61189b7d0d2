import Derived.Test.YtmhmbmogodofeaaFl
namespace Go.FS
open Go.RowKit
variable {P:Program} {md:Bool} {H:HeapI} {R:Type}
theorem clr_rel {E:Env}:∀ (l:List Tmp) {t t':List Value},LRel E t t'→LRel E (clr l t) t'
 | [],_,_,h=>h
 | i::l,t,t',h=>by
  refine clr_rel l (t:=t.set i dc) ⟨by simp [h.1],fun j a b=>?_⟩
  simp only [List.getElem_set]
  split
  · exact .dc _
  · exact h.2 j (by simpa using a) b
theorem loopD_eq {s:St H} {l:Nat} {x:Nat×Option Code×FuncId×List Value×List Tmp×Code×Code} (h:loopD s l=some x):H.get s.h l=some (.loop x.1 x.2.1 x.2.2.1 x.2.2.2.1 x.2.2.2.2.1 x.2.2.2.2.2.1 x.2.2.2.2.2.2):=by
 unfold loopD at h
 split at h
 · rename_i hg; injection h with h; subst h; exact hg
 · cases h
theorem getLoop_run {w:World} {b:Nat} {r:Loop} (h:w.heap[b]?=some (.loop r)):(Instr.getLoop b).run P w=.ok r w:=by
 simp only [Instr.getLoop,getObj,Sem.run_bind,Sem.run,h,Result.andThen_ok]
 rfl
theorem setObj_run {w:World} {b:Nat} {r:Loop} (h:w.heap[b]?=some (.loop r)) (x:Obj):(setObj b x).run P w=.ok () { w with heap:=w.heap.setIfInBounds b x }:=by
 simp only [setObj,Sem.run,h]
theorem setLoop_ok {E:Env} {s:St H} {w:World} (hW:WRel E s w) {l:Nat} {x:Nat×Option Code×FuncId×List Value×List Tmp×Code×Code} (hl:loopD s l=some x) (st:Nat) (pe:Option Code) {r:Loop}
 (ht:LRel E x.2.2.2.1 r.tmps.toList) (hp:r.params.toList=x.2.2.2.2.1) (ha:r.assign=x.2.2.2.2.2.1) (hb:r.body=x.2.2.2.2.2.2) {ls:LoopState} (hst:ls=(match st with | 0=>.ready | 1=>.busy | _=>.done)) :
 WRel E { s with h:=H.put s.h l (some (.loop st pe x.2.2.1 x.2.2.2.1 x.2.2.2.2.1 x.2.2.2.2.2.1 x.2.2.2.2.2.2)) } { w with heap:=w.heap.setIfInBounds (E.blk l) (.loop { r with state:=ls,pending:=pe }) } ∧
 Keep E w E { w with heap:=w.heap.setIfInBounds (E.blk l) (.loop { r with state:=ls,pending:=pe }) }:=by
 have hg:=loopD_eq hl
 have hown:=(hW.loop hg).own
 have hlt:=hW.lt _ _ hg
 have hbl:=hW.blt l hlt hown
 have hne:∀ k,k≠E.blk l→({ w with heap:=w.heap.setIfInBounds (E.blk l) (.loop { r with state:=ls,pending:=pe }) }:World).heap[k]?=w.heap[k]?:=fun k hk=>by
  show (w.heap.setIfInBounds _ _)[k]?=_
  rw [Array.getElem?_setIfInBounds,if_neg (fun e=>hk e.symm)]
 refine ⟨hW.put l _ _ hg hown rfl (by simp) hne ?_,⟨.refl E,fun i a b=>absurd b (Nat.not_lt_of_le a),fun _ q=>.inl q,rfl,rfl,rfl,by simp,fun b hb hn _=>hne b (fun e=>hn l hlt hown e.symm),fun _ _ _ _ _=>rfl⟩⟩
 refine ⟨hown,{ r with state:=ls,pending:=pe },?_,hst,rfl,ht,hp,ha,hb⟩
 show (w.heap.setIfInBounds _ _)[E.blk l]?=_
 rw [Array.getElem?_setIfInBounds,if_pos rfl,if_pos hbl]
theorem WRel.setOther {E:Env} {s:St H} {w:World} (hW:WRel E s w) {b:Nat} (x:Obj) (hb:∀ i o,H.get s.h i=some o→E.own i=true→E.blk i≠b) (ht:E.tb b=false) (hf:∀ o v,E.fz b o=some v→False):WRel E s { w with heap:=w.heap.setIfInBounds b x } :=
 hW.off (by simp) fun k _ hk=>by
  show (w.heap.setIfInBounds _ _)[k]?=_
  rw [Array.getElem?_setIfInBounds,if_neg]
  intro e
  subst e
  rcases hk with ⟨i,o,h1,h2,h3⟩ | h | ⟨o,v,h⟩
  · exact hb i o h1 h2 h3
  · rw [ht] at h; cases h
  · exact hf o v h
theorem live_not_deferred {E:Env} {s:St H} {w:World} (hW:WRel E s w) {b:Nat} {x:Option (List Deferred)} (hb:w.heap[b]?=some (.deferred x)) (i:Nat) (o:DObj) (hg:H.get s.h i=some o) (ho:E.own i=true):E.blk i≠b:=by
 intro e
 cases o with
 | row cs =>
  obtain ⟨e2,hs⟩:=(hW.row hg).shape
  rw [e] at hs
  simp [World.shape?,hb] at hs
 | tok L z=>rw [TokRel.own (hW.obj i _ hg)] at ho; cases ho
 | map es c =>
  obtain ⟨_,es',h1,_⟩:=(hW.obj i _ hg:MapRel E w i es c)
  rw [e,hb] at h1; cases h1
 | iter m a c d =>
  have h1:=(hW.obj i _ hg:IterRel E w i m a c d).is
  rw [e,hb] at h1; cases h1
 | loop st pe fn t ps as bo =>
  obtain ⟨r,h1,_⟩:=(hW.loop hg).is
  rw [e,hb] at h1
  cases h1
theorem deferred_not_fz {E:Env} {s:St H} {w:World} (hW:WRel E s w) {b:Nat} {x:Option (List Deferred)} (hb:w.heap[b]?=some (.deferred x)) (o:Nat) (v:Value) (h:E.fz b o=some v):False:=by
 have:=(hW.frz b o v h).1
 simp [World.cell?,hb] at this
def RndOk (E:Env) (rnd lb:Option Nat):Prop :=
 (rnd=none∧lb=none)∨∃ l,rnd=some l∧lb=some (E.blk l)∧l<E.n
theorem RndOk.keep {E E':Env} {rnd lb:Option Nat} (h:RndOk E rnd lb) (hE:E.Le E'):RndOk E' rnd lb:=by
 rcases h with h | ⟨l,h1,h2,h3⟩
 · exact .inl h
 · exact .inr ⟨l,h1,by rw [hE.blk l h3]; exact h2,Nat.lt_of_lt_of_le h3 hE.n⟩
theorem hidden {E:Env} {s:St H} {w:World} (hW:WRel E s w) (o:Obj):WRel E s (w.alloc o) :=
 hW.off (by simp) fun k hk _=>Below.heap_alloc _ _ _ hk
theorem enter_ok {B:Nat} {E:Env} {s:St H} {w:World} (hW:WRel E s w) {rnd lb:Option Nat} (hR:RndOk E rnd lb) (hl:isLoop s rnd=true) {t:List Value} {a:Act} (hT:LRel E t a.tmps.toList) (hD:DefOk B E w a.defers) (hB:B≤w.heap.size) (fn fnD:FuncId) (ps:Array Tmp) (as bo:Code) :
 ∃ mark w1 b,(Instr.enterLoop fn a.tmps ps as bo lb).run P w=.ok (b,mark) w1∧WRel (E.add b 0 0) (newD s (.loop 0 none fnD t ps.toList as bo)) w1∧Keep E w (E.add b 0 0) w1∧DefOk B (E.add b 0 0) w1 (mark++a.defers):=by
 have hA:∀ b,E.Le (E.add b 0 0):=fun b=>E.le_add b 0 0
 have lay:∀ (w0:World) (r:Loop),WRel E s w0→w.heap.size≤w0.heap.size→Keep E w E w0→r.state=.ready→r.pending=none→r.tmps=a.tmps→r.params=ps→r.assign=as→r.body=bo →
  WRel (E.add w0.heap.size 0 0) (newD s (.loop 0 none fnD t ps.toList as bo)) (w0.alloc (.loop r))∧Keep E w (E.add w0.heap.size 0 0) (w0.alloc (.loop r)):=by
  intro w0 r hW0 hsz hK r1 r2 r3 r4 r5 r6
  obtain ⟨h1,h2⟩:=newObj_ok hW0 (.loop 0 none fnD t ps.toList as bo) (.loop r) 0 0 rfl (fun hb=>⟨by simp,r,by simpa using hb,by rw [r1]; rfl,r2,by rw [r3]; exact hT.mono (hA _),by rw [r4],r5,r6⟩)
  exact ⟨h1,hK.trans h2⟩
 rcases hR with ⟨rfl,rfl⟩ | ⟨l,rfl,rfl,hlt⟩
 · have hW1:=hidden hW (.deferred (some []))
   have hK1:Keep E w E (w.alloc (.deferred (some []))):=⟨.refl E,fun i a b=>absurd b (Nat.not_lt_of_le a),fun _ q=>.inl q,rfl,rfl,rfl,by simp,fun b hb _ _=>Below.heap_alloc _ _ _ hb,fun _ _ _ _ _=>rfl⟩
   obtain ⟨h1,h2⟩:=lay _ { state:=.ready,pending:=none,fn:=fn,tmps:=a.tmps,params:=ps,assign:=as,body:=bo,defers:=w.heap.size } hW1 (by simp) hK1 rfl rfl rfl rfl rfl rfl
   refine ⟨[{ target:=.collected w.heap.size,args:=#[] }],_,_,?_,h1,h2,⟨⟨w.heap.size,rfl,hB,?_,⟨?_,hW.no_tb (Nat.le_refl _)⟩,?_⟩,hD.keep h2⟩⟩
   · simp only [Instr.enterLoop,Sem.run_bind,run_newObj,Result.andThen_ok,Sem.run_pure]
     rfl
   · rw [Below.heap_alloc _ _ _ (by simp)]
     show (w.heap.push _)[w.heap.size]?=_
     rw [Array.getElem?_push_size]
   · intro j hj ho e
     by_cases hj':j<E.n
     · rw [(hA _).blk j hj'] at e
       have:=hW.blt j hj' (by rw [← (hA _).own j hj']; exact ho)
       omega
     · have:j=E.n:=by have:j<E.n+1:=hj; omega
       subst this
       rw [Env.add_blk] at e
       simp at e
   · intro d2 hd2 e
     have:∀ {ds:List Deferred},DefOk B E w ds→d2∈ds→False:=by
      intro ds
      induction ds with
      | nil=>intro _ h; cases h
      | cons d ds ih =>
        rintro ⟨⟨r,q1,q2,q3,q4,q5⟩,q⟩ hm
        cases hm with
        | head =>
         rw [q1] at e
         injection e with e
         rw [e] at q3
         simp at q3
        | tail _ hm=>exact ih q hm
     exact this hD hd2
 · obtain ⟨x,hx⟩:=Option.isSome_iff_exists.1 hl
   obtain ⟨r0,q1,_⟩:=(hW.loop (loopD_eq hx)).is
   obtain ⟨h1,h2⟩:=lay w { state:=.ready,pending:=none,fn:=fn,tmps:=a.tmps,params:=ps,assign:=as,body:=bo,defers:=r0.defers } hW (Nat.le_refl _) (.refl E w) rfl rfl rfl rfl rfl rfl
   refine ⟨[],_,_,?_,h1,h2,hD.keep h2⟩
   simp only [Instr.enterLoop,Sem.run_bind,getLoop_run q1,run_newObj,Result.andThen_ok,Sem.run_pure]
   rfl
theorem exec_sound {X:Type} {B:Nat} {C:OracleJ H} (hC:COkJ P C) (hmix:P.follows .mixedOrders=true) (n:Nat) (fn:FuncId) (rnd lb:Option Nat):∀ (c:Code) {K:Ex→List Value→St H→Option (List X)} {r:List X} {E:Env} {s:St H} {w:World} {t:List Value} {a:Act},
 WRel E s w→LRel E t a.tmps.toList→DefOk B E w a.defers→B≤w.heap.size→RndOk E rnd lb→exec P md C n fn rnd c t s K=some r→c.wpIn (FW lb) 0 P (Post B K r E w) a w:=by
 intro c
 induction c with
 | skip =>
  intro K r E s w t a hW hT hD hB hR h
  exact wpIn_skip ⟨.normal,t,s,E,trivial,.of h,hT,hW,.refl E w,hD⟩
 | region id ops draw =>
  intro K r E s w t a hW hT hD hB hR h
  cases draw with
  | false =>
   have h:opsK P md C ops ops.toList t s (K .normal)=some r:=h
   refine wpIn_region ?_
   have:=ops_sound (B:=B) (lb:=lb) hC (Post B K r E w) ops.toList 0 (by simp) hW hT hD h (fun t' s' E' a' w' r' q0 q1 q2 q3 q4 q5=>⟨.normal,t',s',E',trivial,⟨r',q0,q1⟩,q2,q3,q4,q5⟩)
   rw [Array.length_toList,← List.range_eq_range'] at this
   exact this
  | true =>
   have h:(bif regionOk P md ops then opsDK P md (oneO C) ops 0 ops.toList t s [s] [] (K .normal) else none)=some r:=h
   obtain ⟨hok,h⟩:=csome h
   exact draw_sound (one_ok hC) hmix hok hW hT hD h
 | seq x y ihx ihy =>
  intro K r E s w t a hW hT hD hB hR h
  refine wpIn_seq (wpIn_mono (ihx hW hT hD hB hR h) fun e a' w' hq=>?_)
  obtain ⟨ex,t',s',E',h1,h2,h3,h4,h5,h6⟩:=hq
  cases ex with
  | normal =>
   cases e <;> first | exact h1.elim | skip
   obtain ⟨r',hs,h2⟩:=h2
   exact wpIn_mono (ihy h4 h3 h6 (Nat.le_trans hB h5.size) (hR.keep h5.le) h2) fun e a2 w2 hq=>(hq.sub hs).back h5
  | exit i =>
   cases e <;> first | exact h1.elim | skip
   exact ⟨.exit i,t',s',E',h1,h2,h3,h4,h5,h6⟩
  | ret =>
   cases e <;> first | exact h1.elim | skip
   exact ⟨.ret,t',s',E',h1,h2,h3,h4,h5,h6⟩
 | cond c x y ihx ihy =>
  intro K r E s w t a hW hT hD hB hR h
  obtain ⟨b,hb,h⟩:=bsome h
  have hc:=eval_rel hT c
  have:evalO t c=.bool b:=by
   unfold boolD at hb
   split at hb
   · rename_i e; injection hb with hb; rw [e,hb]
   · cases hb
  rw [this] at hc
  refine wpIn_cond hc.bool_inv ?_
  cases b with
  | true=>exact ihx hW hT hD hB hR h
  | false=>exact ihy hW hT hD hB hR h
 | block id c ih =>
  intro K r E s w t a hW hT hD hB hR h
  refine wpIn_block (wpIn_mono (ih hW hT hD hB hR h) fun e a' w' hq=>?_)
  obtain ⟨ex,t',s',E',h1,h2,h3,h4,h5,h6⟩:=hq
  cases ex with
  | normal =>
   cases e <;> first | exact h1.elim | skip
   exact ⟨.normal,t',s',E',h1,h2,h3,h4,h5,h6⟩
  | exit i =>
   cases e <;> first | exact h1.elim | skip
   obtain rfl:i=_:=h1
   obtain ⟨r',hs,h2⟩:=h2
   by_cases e:i=id
   · subst e
     simp only [beq_yes,cond_true] at h2
     simp only [Exit.inBlock,if_true]
     exact ⟨.normal,t',s',E',trivial,⟨r',hs,h2⟩,h3,h4,h5,h6⟩
   · simp only [beq_no e,cond_false] at h2
     simp only [Exit.inBlock,if_neg e]
     exact ⟨.exit i,t',s',E',rfl,⟨r',hs,h2⟩,h3,h4,h5,h6⟩
  | ret =>
   cases e <;> first | exact h1.elim | skip
   exact ⟨.ret,t',s',E',h1,h2,h3,h4,h5,h6⟩
 | loop c ih =>
  intro K r E s w t a hW hT hD hB hR h
  have h:iter (fun t s k=>exec P md C n fn rnd c t s k) (scratch c) n (clr (scratch c) t) s K=some r:=h
  have key:∀ m {E1:Env} {s1:St H} {w1:World} {t1:List Value} {a1:Act},WRel E1 s1 w1→LRel E1 t1 a1.tmps.toList→DefOk B E1 w1 a1.defers→B≤w1.heap.size→RndOk E1 rnd lb→Keep E w E1 w1 →
    ∀ r1,(∀ y∈r1,y∈r)→iter (fun t s k=>exec P md C n fn rnd c t s k) (scratch c) m t1 s1 K=some r1→Code.roundsIn (FW lb) 0 P c (Post B K r E w) m a1 w1:=by
   intro m
   induction m with
   | zero=>intro E1 s1 w1 t1 a1 _ _ _ _ _ _ r1 _ h; cases h
   | succ m ihm =>
    intro E1 s1 w1 t1 a1 hW1 hT1 hD1 hB1 hR1 hK1 r1 hs1 h
    rw [roundsIn_succ]
    refine wpIn_mono (ih hW1 hT1 hD1 hB1 hR1 h) fun e a' w' hq=>?_
    obtain ⟨ex,t',s',E',h1,h2,h3,h4,h5,h6⟩:=hq
    cases ex with
    | normal =>
      cases e <;> first | exact h1.elim | skip
      obtain ⟨r',hs,h2⟩:=h2
      exact ihm h4 (clr_rel (scratch c) h3) h6 (Nat.le_trans hB1 h5.size) (hR1.keep h5.le) (hK1.trans h5) r' (fun y hy=>hs1 y (hs y hy)) h2
    | exit i =>
      cases e <;> first | exact h1.elim | skip
      obtain ⟨r',hs,h2⟩:=h2
      exact ⟨.exit i,_,s',E',h1,⟨r',fun y hy=>hs1 y (hs y hy),h2⟩,clr_rel (scratch c) h3,h4,hK1.trans h5,h6⟩
    | ret =>
      cases e <;> first | exact h1.elim | skip
      obtain ⟨r',hs,h2⟩:=h2
      exact ⟨.ret,_,s',E',h1,⟨r',fun y hy=>hs1 y (hs y hy),h2⟩,clr_rel (scratch c) h3,h4,hK1.trans h5,h6⟩
  exact wpIn_loop_rounds n (key n hW (clr_rel (scratch c) hT) hD hB hR (.refl E w) r (fun _ h=>h) h)
 | exit id =>
  intro K r E s w t a hW hT hD hB hR h
  exact wpIn_exit ⟨.exit id,t,s,E,rfl,.of h,hT,hW,.refl E w,hD⟩
 | ret =>
  intro K r E s w t a hW hT hD hB hR h
  exact wpIn_ret ⟨.ret,t,s,E,trivial,.of h,hT,hW,.refl E w,hD⟩
 | rangeFunc f ps as bo iha ihb =>
  intro K r E s w t a hW hT hD hB hR h
  clear iha ihb
  have h':(bif isLoop s rnd then
   (tgtD (evalO t f) [.func (.yield s.n) #[] #[]]).bind fun g=>bif !g.1.bodied P then none else
   (C g.1 g.2 (newD s (.loop 0 none fn t ps.toList as bo))).bind fun L=>manyK L fun _ s2 =>
   (endLoopD s2 s.n).bind fun q=>match q.1 with
    | none=>K .normal t q.2
    | some .ret=>K .ret t q.2
    | some (.exit id)=>K (.exit id) t q.2
    | some _=>none
   else none)=some r:=h
  clear h
  obtain ⟨hl,h1⟩:=csome h'
  obtain ⟨g,hg,h2⟩:=bsome h1
  clear h' h1
  have hbody:g.1.bodied P=true:=by
   cases hq:g.1.bodied P with
   | true=>rfl
   | false=>rw [hq] at h2; cases h2
  rw [hbody] at h2
  simp only [Bool.not_true,cond_false] at h2
  obtain ⟨L,hp,h3⟩:=bsome h2
  clear h2
  refine wpIn_rangeFunc fun fnm _=>?_
  obtain ⟨mark,w1,b,he,hW1,hK1,hD1⟩:=enter_ok (P:=P) (B:=B) hW hR hl hT hD hB fnm fn ps as bo
  have hA:=E.le_add b 0 0
  have hf:=(eval_rel hT f).mono hA
  generalize evalO t f=fv at hf hg
  have hyl:VRel (E.add b 0 0) (.func (.yield s.n) #[] #[]) (.func (.yield b) #[] #[]):=by
   have:=VRel.yld (E:=E.add b 0 0) E.n (Nat.lt_succ_self _)
   rw [Env.add_blk] at this
   rw [← hW.n]; exact this
  unfold tgtD at hg
  split at hg
  next fid first cap =>
   injection hg with hg
   subst hg
   generalize hfv:a.eval f=fv' at hf
   cases hf with
   | func _ _ first' _ cap' e1 e2 r1 r2 =>
    have hall:LRel (E.add b 0 0) ((first.toList++[.func (.yield s.n) #[] #[]])++cap.toList) ((first'++#[Value.func (.yield b) #[] #[]])++cap').toList:=by
      rw [Array.toList_append,Array.toList_append]
      exact ((LRel.ofArr e1 r1).append (.cons hyl (.nil _))).append (LRel.ofArr e2 r2)
    have hok:=hC _ _ _ _ hp _ w1 _ hW1 hall
    have hcf:(callFunc fid ((first'++#[Value.func (.yield b) #[] #[]])++cap')).run P w1=.ok (.enter fid ((first'++#[Value.func (.yield b) #[] #[]])++cap')) w1 ∧
       CallsIn (FW none) 0 P fid ((first'++#[Value.func (.yield b) #[] #[]])++cap') w1 (AnsE (AnsL (E.add b 0 0) w1 L)):=by
      rcases hok with h | ⟨v,w',h1,_⟩
      · exact h
      · exfalso
        have hb2:bodied P fid=true:=hbody
        unfold bodied at hb2
        split at hb2
        next fnc hfn =>
         simp only [callFunc,Sem.run_bind,run_program,Result.andThen_ok,hfn] at h1
         have hb3:fnc.body.isNone=false:=by simpa using hb2
         rw [hb3] at h1
         simp only [Bool.false_eq_true,if_false] at h1
         split at h1
         · simp at h1
         · simp at h1
        next=>cases hb2
    refine ⟨b,mark,w1,{ target:=.fn (.func fid) cap',args:=first'++#[Value.func (.yield b) #[] #[]] },w1,fid,_,w1,he,?_,fun f' _=>FW_fn lb f',hcf.1,fun hd=>by simp [FW_depth] at hd,(FW_calls hcf.2).mono fun e w' hq2=>?_⟩
    · have hmap:(#[Operand.const (Value.func (.yield b) #[] #[])]:Array Operand).map a.eval=#[Value.func (.yield b) #[] #[]]:=by simp [Act.eval]
      simp only [resolve,hfv,Deferred.ofValue,Sem.run_pure,hmap]
    · cases e with
      | panicked c=>exact hq2.elim
      | outgrown=>exact hq2.elim
      | returned v =>
       obtain ⟨p,hpL,E3,k1,k2,k3⟩:=hq2
       obtain ⟨r',hsub,h3⟩:=manyK_mem h3 hpL
       obtain ⟨q,hq,h4⟩:=bsome h3
       have hle3:=hA.trans k3.le
       unfold endLoopD at hq
       obtain ⟨x,hx,hq⟩:=bsome hq
       have hst:x.1≠1:=by
         intro e; rw [e] at hq; cases hq
       rw [beq_no hst] at hq
       simp only [cond_false] at hq
       injection hq with hq
       subst hq
       have hlx:=k2.loop (loopD_eq hx)
       obtain ⟨rr,q1,q2,q3,q4⟩:=hlx.is
       have hnb:(rr.state == .busy)=false:=by
         rw [q2]
         split
         · rfl
         · rename_i e; exact absurd e hst
         · rfl
       have hend:(Instr.endLoop (E3.blk s.n)).run P w'=.ok x.2.1 { w' with heap:=w'.heap.setIfInBounds (E3.blk s.n) (.loop { rr with state:=.exhausted }) }:=by
         simp only [Instr.endLoop,Sem.run_bind,getLoop_run q1,Result.andThen_ok,hnb]
         simp [setObj_run q1,q3]
       have hbb:E3.blk s.n=b:=by
         rw [← hW.n,k3.le.blk E.n (Nat.lt_succ_self _),Env.add_blk]
       rw [hbb] at hend
       have hlive:∀ i o,H.get ((H.put p.2.h s.n none)) i=some o→E3.own i=true→E3.blk i≠b:=fun i o hgi hoi e=>by
         rw [H.get_put] at hgi
         split at hgi
         · cases hgi
         · rename_i hne
           exact k2.inj s.n i _ o (loopD_eq hx) hgi (fun e=>hne e.symm) hlx.own hoi (by rw [hbb]; exact e.symm)
       have hW4:WRel E3 { p.2 with h:=H.put p.2.h s.n none } { w' with heap:=w'.heap.setIfInBounds b (.loop { rr with state:=.exhausted }) }:=(k2.kill s.n).setOther _ hlive (by rw [← hbb]; exact k2.tbo s.n _ (loopD_eq hx) hlx.own) (fun o v hv=>(k2.frz b o v hv).2 s.n _ (loopD_eq hx) hlx.own hbb)
       have hKw:Keep E3 w' E3 { w' with heap:=w'.heap.setIfInBounds b (.loop { rr with state:=.exhausted }) } :=
         ⟨.refl E3,fun i a b=>absurd b (Nat.not_lt_of_le a),fun _ q=>.inl q,rfl,rfl,rfl,by simp,fun k hk hn _=>by
          show (w'.heap.setIfInBounds _ _)[k]?=_
          rw [Array.getElem?_setIfInBounds,if_neg]
          intro e
          exact hn s.n (k2.lt _ _ (loopD_eq hx)) hlx.own (by rw [hbb]; exact e),fun _ _ _ _ _=>rfl⟩
       have hD4:=(hD1.keep k3).keep hKw
       have hT4:=hT.mono hle3
       have hK4:=(hK1.trans k3).trans hKw
       refine ⟨x.2.1,_,hend,?_⟩
       simp only at h4
       split at h4
       next hj=>rw [hj]; exact ⟨.normal,t,_,E3,trivial,⟨r',hsub,h4⟩,hT4,hW4,hK4,hD4⟩
       next hj=>rw [hj]; exact wpIn_ret ⟨.ret,t,_,E3,trivial,⟨r',hsub,h4⟩,hT4,hW4,hK4,hD4⟩
       next id hj=>rw [hj]; exact wpIn_exit ⟨.exit id,t,_,E3,rfl,⟨r',hsub,h4⟩,hT4,hW4,hK4,hD4⟩
       next=>cases h4
  next l first cap =>
   injection hg with hg
   subst hg
   cases hbody
  next=>cases hg
 | _=>intro K r E s w t a hW hT hD hB hR h; cases h
theorem zipset {E:Env}:∀ (ps:List Tmp) {as as' t t':List Value},LRel E as as'→LRel E t t'→LRel E ((ps.zip as).foldl (fun t p=>t.set p.1 p.2) t) ((ps.zip as').foldl (fun t p=>t.set p.1 p.2) t')
 | [],_,_,_,_,_,ht=>ht
 | i::ps,as,as',t,t',ha,ht=>by
  cases as with
  | nil=>obtain rfl:=ha.unnil; exact ht
  | cons v as =>
   obtain ⟨v',l',rfl,hv,hl⟩:=ha.uncons
   exact zipset ps hl (ht.set i hv)
theorem setLoopD_eq {s s':St H} {l st:Nat} {pe:Option Code} (h:setLoopD s l st pe=some s'):∃ x,loopD s l=some x∧s'={ s with h:=H.put s.h l (some (.loop st pe x.2.2.1 x.2.2.2.1 x.2.2.2.2.1 x.2.2.2.2.2.1 x.2.2.2.2.2.2)) }:=by
 unfold setLoopD at h
 obtain ⟨x,hx,h⟩:=msome h
 exact ⟨x,hx,h.symm⟩
theorem foldl_tmps (ps:List Tmp) (as:List Value) (t:Array Value):((ps.zip as).foldl (fun tmps (t,a)=>tmps.setIfInBounds t a) t).toList=(ps.zip as).foldl (fun t p=>t.set p.1 p.2) t.toList:=by
 induction ps generalizing as t with
 | nil=>rfl
 | cons i ps ih =>
  cases as with
  | nil=>rfl
  | cons v as=>simp only [List.zip_cons_cons,List.foldl_cons]; rw [ih,Array.toList_setIfInBounds]
theorem round_sound {C:OracleJ H} (hC:COkJ P C) (hmix:P.follows .mixedOrders=true) {rw:FuncId→Bool} (n l:Nat) {args:List Value} {s:St H} {L:List (Value×St H)} (h:roundD P rw C n l args s=some L) {E:Env} {w:World} {args':Array Value} (hW:WRel E s w) (hA:LRel E args args'.toList) (hl:l<E.n) :
 YldOk P (E.blk l) args' w (AnsL E w L):=by
 unfold roundD at h
 obtain ⟨x,hx,h⟩:=bsome h
 obtain ⟨hlen,h⟩:=csome h
 have hlen:=Nat.eq_of_beq_eq_true hlen
 have hlr:=hW.loop (loopD_eq hx)
 obtain ⟨r,q1,q2,q3,q4,q5,q6,q7⟩:=hlr.is
 have hsz:args'.size=r.params.size:=by
  have h1:=hA.1
  have h2:r.params.toList.length=x.2.2.2.2.1.length:=by rw [q5]
  simp at h1 h2
  omega
 refine ⟨r.fn,(r.params.zip args').foldl (fun tmps (t,a)=>tmps.setIfInBounds t a) r.tmps,r.assign,r.body,?_,?_⟩
 · simp only [Instr.yield,Sem.run_bind,getLoop_run q1,Result.andThen_ok,hsz,ne_eq,not_true,if_false]
   rfl
 · refine roundIn_of_wpIn (FW_fn _ _) ?_
   have hT:LRel E ((x.2.2.2.2.1.zip args).foldl (fun t p=>t.set p.1 p.2) x.2.2.2.1) ((r.params.zip args').foldl (fun tmps (t,a)=>tmps.setIfInBounds t a) r.tmps).toList:=by
    rw [← Array.foldl_toList,Array.toList_zip,foldl_tmps,q5]
    exact zipset _ hA q4
   have hRnd:RndOk E (some l) (some (E.blk l)):=.inr ⟨l,rfl,rfl,hl⟩
   rw [q6,q7]
   show Code.wpIn (FW (some (E.blk l))) 0 P _ _ _ _
   refine wpIn_mono (exec_sound (B:=0) hC hmix n _ (some l) (some (E.blk l)) _ hW (a:={ tmps:=(r.params.zip args').foldl (fun tmps (t,a)=>tmps.setIfInBounds t a) r.tmps,defers:=[] }) hT trivial (Nat.zero_le _) hRnd h) fun e a1 w1 hq=>?_
   obtain ⟨ex,t',s1,E1,h1,h2,h3,h4,h5,h6⟩:=hq
   cases ex with
   | exit i=>obtain ⟨_,_,h2⟩:=h2; cases h2
   | ret=>obtain ⟨_,_,h2⟩:=h2; cases h2
   | normal =>
    cases e <;> first | exact h1.elim | skip
    obtain ⟨r',hsub,h2⟩:=h2
    obtain ⟨s2,hb,h2⟩:=bsome h2
    unfold beginD at hb
    obtain ⟨y,hy,hb⟩:=bsome hb
    obtain ⟨hst,hb⟩:=csome hb
    have hst:=Nat.eq_of_beq_eq_true hst
    obtain ⟨y2,hy2,rfl⟩:=setLoopD_eq hb
    rw [hy] at hy2
    injection hy2 with hy2
    subst hy2
    have hb1:E1.blk l=E.blk l:=h5.le.blk l hl
    obtain ⟨r1,z1,z2,z3,z4,z5,z6,z7⟩:=(h4.loop (loopD_eq hy)).is
    rw [hst] at z2
    obtain ⟨k1,k2⟩:=setLoop_ok h4 hy 1 y.2.1 (r:=r1) z4 z5 z6 z7 (ls:=.busy) rfl
    have hbeg:(Instr.beginRound (E.blk l)).run P w1=.ok () { w1 with heap:=w1.heap.setIfInBounds (E1.blk l) (.loop { r1 with state:=.busy,pending:=y.2.1 }) }:=by
     rw [← hb1]
     have:({ r1 with state:=.busy,pending:=y.2.1 }:Loop)={ r1 with state:=.busy }:=by rw [← z3]
     rw [this]
     simp only [Instr.beginRound,Sem.run_bind,getLoop_run z1,setObj_run z1,Result.andThen_ok,z2]
     rfl
    refine ⟨_,hbeg,?_⟩
    show Code.wpIn (FW (some (E.blk l))) 0 P _ _ _ _
    refine wpIn_mono (exec_sound (B:=0) hC hmix n _ (some l) (some (E.blk l)) _ k1 (h3.mono k2.le) (h6.keep k2) (Nat.zero_le _) ((hRnd.keep h5.le).keep k2.le) h2) fun e a2 w2 hq=>?_
    · obtain ⟨ex,t2,s3,E3,m1,⟨r2,hsub2,m2⟩,m3,m4,m5,_⟩:=hq
      have hKall:=(h5.trans k2).trans m5
      have hb3:E3.blk l=E.blk l:=hKall.le.blk l hl
      have fin:∀ (st:Nat) (pe:Option Code) (s4:St H),setLoopD s3 l st pe=some s4→(st=0∧pe=none∨st=2∧pe.isSome=true) →
       ∃ w4,(Instr.endRound (E.blk l) pe).run P w2=.ok (.bool pe.isNone) w4∧Ans E w (.bool pe.isNone) s4 (.bool pe.isNone) w4:=by
       intro st pe s4 hs hcase
       obtain ⟨y3,hy3,rfl⟩:=setLoopD_eq hs
       obtain ⟨r3,u1,u2,u3,u4,u5,u6,u7⟩:=(m4.loop (loopD_eq hy3)).is
       obtain ⟨k3,k4⟩:=setLoop_ok m4 hy3 st pe (r:=r3) u4 u5 u6 u7 (ls:=if pe.isNone then .ready else .done) (by
        rcases hcase with ⟨rfl,rfl⟩ | ⟨rfl,hp⟩
        · rfl
        · cases pe with
          | none=>cases hp
          | some c=>rfl)
       refine ⟨_,?_,E3,.bool _,k3,hKall.trans k4⟩
       rw [← hb3]
       simp only [Instr.endRound,Sem.run_bind,getLoop_run u1,setObj_run u1,Result.andThen_ok]
       rfl
      cases ex with
      | normal =>
       cases e <;> first | exact m1.elim | skip
       obtain ⟨s4,hs,he⟩:=msome m2
       subst he
       obtain ⟨w4,f1,f2⟩:=fin 0 none s4 hs (.inl ⟨rfl,rfl⟩)
       exact ⟨_,w4,f1,_,hsub _ (hsub2 _ (List.mem_singleton.2 rfl)),f2⟩
      | ret =>
       cases e <;> first | exact m1.elim | skip
       obtain ⟨s4,hs,he⟩:=msome m2
       subst he
       obtain ⟨w4,f1,f2⟩:=fin 2 (some .ret) s4 hs (.inr ⟨rfl,rfl⟩)
       exact ⟨_,w4,f1,_,hsub _ (hsub2 _ (List.mem_singleton.2 rfl)),f2⟩
      | exit id =>
       cases e <;> first | exact m1.elim | skip
       obtain rfl:id=_:=m1
       obtain ⟨s4,hs,he⟩:=msome m2
       subst he
       obtain ⟨w4,f1,f2⟩:=fin 2 (some (.exit id)) s4 hs (.inr ⟨rfl,rfl⟩)
       exact ⟨_,w4,f1,_,hsub _ (hsub2 _ (List.mem_singleton.2 rfl)),f2⟩
theorem resK_ok {E:Env} {s:St H} {w:World} (hW:WRel E s w) {t:List Value} {tm:Array Value} (hT:LRel E t tm.toList) {k:List Value→Option R} {r:R}:∀ (rs:List ResultVar) {acc acc':List Value},LRel E acc acc'→resK P s t rs acc k=some r →
 ∃ vs vs',k (acc++vs)=some r∧LRel E vs vs'∧(rs.mapM (fun | .tmp t=>pure (tm.getD t undef) | .cell a t=>do loadVar t (← asAddr (tm.getD a undef))):Sem (List Value)).run P w=.ok vs' w
 | [],acc,acc',ha,h=>⟨[],[],by simpa [resK] using h,.nil E,rfl⟩
 | .tmp i::rs,acc,acc',ha,h=>by
  have hg:VRel E (t.getD i undefV) (tm.getD i undef):=by
   have:=hT.getD i (VRel.undef E)
   simpa [Array.getD_eq_getD_getElem?,List.getD_eq_getElem?_getD] using this
  obtain ⟨vs,vs',h1,h2,h3⟩:=resK_ok hW hT rs (ha.append (.cons hg (.nil E))) h
  refine ⟨_::vs,_::vs',by simpa using h1,.cons hg h2,?_⟩
  simp only [List.mapM_cons,Sem.run_bind,Sem.run_pure,Result.andThen_ok,h3]
 | .cell i e::rs,acc,acc',ha,h=>by
  obtain ⟨v,hv,h⟩:=bsome h
  have hg:VRel E (t.getD i undefV) (tm.getD i undef):=by
   have:=hT.getD i (VRel.undef E)
   simpa [Array.getD_eq_getD_getElem?,List.getD_eq_getElem?_getD] using this
  obtain ⟨v',hl,hvr⟩:=load_ok (P:=P) hW hg hv
  obtain ⟨vs,vs',h1,h2,h3⟩:=resK_ok hW hT rs (ha.append (.cons hvr (.nil E))) h
  refine ⟨_::vs,_::vs',by simpa using h1,.cons hvr h2,?_⟩
  have hp:∃ a,tm.getD i undef=.pointer (some a):=by
   generalize t.getD i undefV=tv at hv hg
   unfold loadD at hv
   split at hv
   · exact ⟨_,hg.ptr_inv.1⟩
   · split at hv
     · rename_i hcs
       obtain ⟨b,p,f,e,_⟩:=hg.fp_inv hcs
       exact ⟨_,e⟩
     · rename_i hcs
       exact ⟨_,hg.gp_inv hcs⟩
     · cases hv
   · cases hv
  obtain ⟨a,ha2⟩:=hp
  rw [ha2] at hl
  simp only [Instr.loadAt,Instr.sureAddr,Sem.run_bind,Sem.run_pure,Result.andThen_ok] at hl
  have ea:asAddr (tm.getD i undef)=pure a:=by rw [ha2]; rfl
  simp only [List.mapM_cons,Sem.run_bind,ea,Sem.run_pure,Result.andThen_ok,hl,h3]
theorem tupD_rel {E:Env} {vs vs':List Value} (h:LRel E vs vs'):VRel E (tupD vs) (if h:vs'.toArray.size=1 then vs'.toArray[0] else .tuple vs'.toArray):=by
 have hl:=h.1
 cases vs with
 | nil =>
  obtain rfl:=h.unnil
  exact VRel.tupleL (.nil E)
 | cons v vs =>
  obtain ⟨v',l',rfl,hv,hr⟩:=h.uncons
  cases vs with
  | nil =>
   obtain rfl:=hr.unnil
   exact hv
  | cons u us =>
   obtain ⟨u',l2,rfl,hu,hr2⟩:=hr.uncons
   have:¬ (v'::u'::l2).toArray.size=1:=by simp
   rw [dif_neg this]
   exact VRel.tupleL h
theorem take_run {w:World} {b:Nat} (h:w.heap[b]?=some (.deferred (some []))):(Instr.takeDeferred b).run P w=.ok [] { w with heap:=w.heap.setIfInBounds b (.deferred none) }:=by
 simp only [Instr.takeDeferred,getObj,setObj,Sem.run_bind,Sem.run,h,Result.andThen_ok]
 rfl
theorem leave_ok {B:Nat} {fn:Func} {E0:Env} {w0:World} {v:Value} {s':St H} (hB:w0.heap.size≤B) {Q:Value→World→Prop} (hQ:∀ v' w',Ans E0 w0 v s' v' w'→Q v' w'):∀ (ds:List Deferred) {E:Env} {w:World} {a:Array Value} {t:List Value},WRel E s' w→LRel E t a.toList→Keep E0 w0 E w→DefOk B E w ds →
 resK P s' t fn.results.toList [] (fun vs=>some [(tupD vs,s')])=some [(v,s')]→LeavesInM (FW none) 0 P fn a (AnsE Q) ds .returning w
 | [],E,w,a,t,hW,hT,hK,_,h=>by
  obtain ⟨vs,vs',h1,h2,h3⟩:=resK_ok hW hT _ (.nil E) h
  injection h1 with h1
  injection h1 with h1 _
  injection h1 with h1 _
  rw [List.nil_append] at h1
  refine ⟨if h:vs'.toArray.size=1 then vs'.toArray[0] else .tuple vs'.toArray,?_,hQ _ _ ⟨E,h1 ▸ tupD_rel h2,hW,hK⟩⟩
  have e:results fn a=(do
   let vs ← fn.results.mapM (fun | .tmp t=>pure (a.getD t undef) | .cell x t=>do loadVar t (← asAddr (a.getD x undef)):ResultVar→Sem Value)
   pure (if h:vs.size=1 then vs[0] else .tuple vs)):=rfl
  rw [e,Sem.run_bind,← Array.toArray_toList (xs:=fn.results),List.mapM_toArray,Sem.run_map,h3]
  rfl
 | d::ds,E,w,a,t,hW,hT,hK,⟨⟨r,q1,q2,q3,q4,q5⟩,hD⟩,h=>by
  refine ⟨by simp,.inl ⟨r,_,q1,take_run q3,?_⟩⟩
  have hne:∀ k,k≠r→({ w with heap:=w.heap.setIfInBounds r (.deferred none) }:World).heap[k]?=w.heap[k]?:=fun k hk=>by
   show (w.heap.setIfInBounds _ _)[k]?=_
   rw [Array.getElem?_setIfInBounds,if_neg (fun e=>hk e.symm)]
  have hW':WRel E s' { w with heap:=w.heap.setIfInBounds r (.deferred none) }:=hW.setOther _ (live_not_deferred hW q3) q4.2 (deferred_not_fz hW q3)
  refine leave_ok hB hQ ds hW' hT ?_ ?_ h
  · refine ⟨hK.le,hK.fresh,hK.tbf,hK.os,hK.tape,hK.output,by simpa using hK.size,fun b hb hn ht=>?_,hK.fzf⟩
    rw [hne b (by omega)]; exact hK.block b hb hn ht
  · have:∀ {ds:List Deferred},DefOk B E w ds→(∀ d2∈ds,d2.target≠.collected r)→DefOk B E { w with heap:=w.heap.setIfInBounds r (.deferred none) } ds:=by
     intro ds
     induction ds with
     | nil=>intro _ _; trivial
     | cons d ds ih =>
      rintro ⟨⟨r2,u1,u2,u3,u4,u5⟩,u⟩ hd
      refine ⟨⟨r2,u1,u2,?_,u4,u5⟩,ih u (fun d2 hd2=>hd d2 (List.mem_cons_of_mem _ hd2))⟩
      rw [hne r2 (fun e=>hd d (List.mem_cons_self ..) (by rw [u1,e]))]
      exact u3
    exact this hD q5
theorem body_sound {C:OracleJ H} (hC:COkJ P C) (hmix:P.follows .mixedOrders=true) (n:Nat) {f:FuncId} {fn:Func} (hf:P.funcs[f]?=some fn) {args:List Value} {s:St H} {L:List (Value×St H)} (h:bodyD P md C n f fn args s=some L) {E:Env} {w:World} {args':Array Value} (hW:WRel E s w) (hA:LRel E args args'.toList) :
 CallsIn (FW none) 0 P f args' w (AnsE (AnsL E w L)):=by
 unfold bodyD at h
 split at h
 next=>cases h
 next c hb =>
  refine callsIn_of_wp_marks hf hb (FW_fn _ _) ?_ rfl
  have hT:LRel E (args++List.replicate (fn.ntmps-args.length) undefV) (args'++Array.replicate (fn.ntmps-args'.size) undef).toList:=by
   have:args'.size=args.length:=by have:=hA.1; simp at this; omega
   rw [Array.toList_append,Array.toList_replicate,this]
   refine hA.append ⟨by simp,fun i a b=>?_⟩
   simp only [List.getElem_replicate]
   exact VRel.undef E
  refine wpIn_mono (exec_sound (B:=w.heap.size) hC hmix n f none none c hW (a:={ tmps:=args'++Array.replicate (fn.ntmps-args'.size) undef,defers:=[] }) hT trivial (Nat.le_refl _) (.inl ⟨rfl,rfl⟩) h) fun e a1 w1 hq=>?_
  obtain ⟨ex,t',s1,E1,h1,h2,h3,h4,h5,h6⟩:=hq
  obtain ⟨r',hsub,h2⟩:=h2
  have fin:resK P s1 t' fn.results.toList [] (fun vs=>some [(tupD vs,s1)])=some r'→LeavesInM (FW none) 0 P fn a1.tmps (AnsE (AnsL E w L)) a1.defers .returning w1:=by
   intro hr
   obtain ⟨vs,vs',k1,_⟩:=resK_ok h4 h3 _ (.nil E1) hr
   injection k1 with k1
   subst k1
   exact leave_ok (Nat.le_refl _) (fun v' w' q=>⟨_,hsub _ (List.mem_singleton.2 rfl),q⟩) a1.defers h4 h3 h5 h6 hr
  cases ex with
  | normal =>
   cases e <;> first | exact h1.elim | skip
   exact fin h2
  | ret =>
   cases e <;> first | exact h1.elim | skip
   exact fin h2
  | exit i=>cases h2
end Go.FS
