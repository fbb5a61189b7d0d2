import Derived.Test.YtmhmbmogodofeaaFi
namespace Go.FS
open Go.RowKit
variable {P:Program} {md:Bool} {H:HeapI} {R:Type}
theorem isEmpty_len {α:Type} (l:List α):l.isEmpty=decide (l.length=0):=by cases l <;> simp
theorem ERel.filter {E:Env} {p:Value×Value×Nat→Bool} {q:MapEntry→Bool} (hpq:∀ (e:Value×Value×Nat) (e':MapEntry),e.2.2=e'.born→p e=q e'):∀ {l:List (Value×Value×Nat)} {m:List MapEntry},ERel E l m→ERel E (l.filter p) (m.filter q)
 | [],m,h=>by
  have:m=[]:=List.eq_nil_of_length_eq_zero h.1.symm
  subst this
  exact ⟨rfl,fun i a=>absurd a (Nat.not_lt_zero i)⟩
 | e::l,m,h=>by
  obtain ⟨e',l',rfl,h1,h2,h3,h4⟩:=h.uncons
  have ih:=ERel.filter hpq h4
  rw [List.filter_cons,List.filter_cons,hpq e e' h3]
  split
  · refine ⟨by simp [ih.1],fun i a b=>?_⟩
    cases i with
    | zero=>exact ⟨h1,h2,h3⟩
    | succ i=>exact ih.2 i (by simpa using a) (by simpa using b)
  · exact ih
theorem ERel.append {E:Env} {l l2:List (Value×Value×Nat)} {m m2:List MapEntry} (h:ERel E l m) (k:ERel E l2 m2):ERel E (l++l2) (m++m2):=by
 refine ⟨by simp [h.1,k.1],fun i a b=>?_⟩
 have hl:=h.1
 by_cases hi:i<l.length
 · rw [List.getElem_append_left hi,List.getElem_append_left (by omega)]; exact h.2 i hi _
 · rw [List.getElem_append_right (by omega),List.getElem_append_right (by omega)]
   have:=k.2 (i-l.length) (by simp at a; omega) (by simp at b; omega)
   simpa [hl] using this
def candM (es:List MapEntry) (since:Nat) (seen:List Nat):List (Option MapEntry) :=
 let left:=es.filter fun e=>!seen.contains e.born
 let old:=left.filter fun e=>decide (e.born<since)
 let new:=left.filter fun e=>decide (e.born≥since)
 (if old.isEmpty then [none] else [])++(old++new).map some
theorem cand_rel {E:Env} {es:List (Value×Value×Nat)} {m:List MapEntry} (h:ERel E es m) (since:Nat) (seen:List Nat) :
 (candD es since seen).length=(candM m since seen).length∧0<(candM m since seen).length∧∀ i (a:i<(candD es since seen).length) (b:i<(candM m since seen).length),
  ((candD es since seen)[i]=none∧(candM m since seen)[i]=none)∨∃ e e',(candD es since seen)[i]=some e∧(candM m since seen)[i]=some e'∧VRel E e.1 e'.key∧VRel E e.2.1 e'.val∧e.2.2=e'.born:=by
 have hleft:=h.filter (p:=fun e=>!seen.contains e.2.2) (q:=fun e=>!seen.contains e.born) (fun e e' he=>by rw [he])
 have hold:=hleft.filter (p:=fun e=>Nat.blt e.2.2 since) (q:=fun e=>decide (e.born<since)) (fun e e' he=>by
  rw [he]
  by_cases hq:e'.born<since
  · rw [decide_eq_true hq]; exact Nat.ble_eq_true_of_le hq
  · rw [decide_eq_false hq]
    cases hb:Nat.blt e'.born since with
    | false=>rfl
    | true=>exact absurd (Nat.le_of_ble_eq_true hb) hq)
 have hnew:=hleft.filter (p:=fun e=>!Nat.blt e.2.2 since) (q:=fun e=>decide (e.born≥since)) (fun e e' he=>by
  rw [he]
  by_cases hq:e'.born<since
  · rw [decide_eq_false (by omega)]
    rw [show Nat.blt e'.born since=true from Nat.ble_eq_true_of_le hq]; rfl
  · rw [decide_eq_true (by omega)]
    cases hb:Nat.blt e'.born since with
    | false=>rfl
    | true=>exact absurd (Nat.le_of_ble_eq_true hb) hq)
 have hall:=hold.append hnew
 have hemp:(((es.filter fun e=>!seen.contains e.2.2).filter fun e=>Nat.blt e.2.2 since).isEmpty)=(((m.filter fun e=>!seen.contains e.born).filter fun e=>decide (e.born<since)).isEmpty):=by
  rw [isEmpty_len,isEmpty_len,hold.1]
 unfold candD candM
 dsimp only
 rw [hemp]
 generalize hL:((es.filter fun e=>!seen.contains e.2.2).filter fun e=>Nat.blt e.2.2 since)++((es.filter fun e=>!seen.contains e.2.2).filter fun e=>!Nat.blt e.2.2 since)=L at hall
 generalize hM:((m.filter fun e=>!seen.contains e.born).filter fun e=>decide (e.born<since))++((m.filter fun e=>!seen.contains e.born).filter fun e=>decide (e.born≥since))=M at hall
 cases hq:((m.filter fun e=>!seen.contains e.born).filter fun e=>decide (e.born<since)).isEmpty with
 | true =>
  simp only [cond_true,if_true]
  refine ⟨by simp [hall.1],by simp,fun i a b=>?_⟩
  cases i with
  | zero=>exact .inl ⟨rfl,rfl⟩
  | succ i =>
   have h1:i<L.length:=by simpa using a
   have h2:i<M.length:=by simpa using b
   refine .inr ⟨L[i],M[i],by simp,by simp,hall.2 i h1 h2⟩
 | false =>
  simp only [cond_false,Bool.false_eq_true,if_false]
  refine ⟨by simp [hall.1],?_,fun i a b=>?_⟩
  · have:((m.filter fun e=>!seen.contains e.born).filter fun e=>decide (e.born<since))≠[]:=by
     intro e; rw [e] at hq; cases hq
    have hpos:=List.length_pos_iff.2 this
    simp only [List.nil_append,List.length_map]
    rw [← hM,List.length_append]; omega
  · have h1:i<L.length:=by simpa using a
    have h2:i<M.length:=by simpa using b
    refine .inr ⟨L[i],M[i],by simp,by simp,hall.2 i h1 h2⟩
theorem setIter_ok {E:Env} {s:St H} {w:World} (hW:WRel E s w) {id:Nat} {m:Option Nat} {since last:Nat} {seen:List Nat} (hg:H.get s.h id=some (.iter m since seen last)) (seen2:List Nat) (last2:Nat) :
 WRel E (putD s id (.iter m since seen2 last2)) { w with heap:=w.heap.setIfInBounds (E.blk id) (.mapIter (m.map E.blk) since seen2.toArray last2) }∧Keep E w E { w with heap:=w.heap.setIfInBounds (E.blk id) (.mapIter (m.map E.blk) since seen2.toArray last2) }:=by
 have hR:IterRel E w id m since seen last:=hW.obj id _ hg
 have hown:=hR.own
 have hlt:=hW.lt id _ hg
 have hbl:=hW.blt id hlt hown
 have hne:∀ k,k≠E.blk id→({ w with heap:=w.heap.setIfInBounds (E.blk id) (.mapIter (m.map E.blk) since seen2.toArray last2) }:World).heap[k]?=w.heap[k]?:=fun k hk=>by
  show (w.heap.setIfInBounds _ _)[k]?=_
  rw [Array.getElem?_setIfInBounds,if_neg (fun e=>hk e.symm)]
 refine ⟨hW.put id _ _ hg hown rfl (by simp) hne ⟨hown,hR.at0,hR.lt,?_⟩,.refl E,fun i a b=>absurd b (Nat.not_lt_of_le a),fun _ q=>.inl q,rfl,rfl,rfl,by simp,fun b hb hn _=>hne b (fun e=>hn id hlt hown e.symm),fun _ _ _ _ _=>rfl⟩
 show (w.heap.setIfInBounds _ _)[E.blk id]?=_
 rw [Array.getElem?_setIfInBounds,if_pos rfl,if_pos hbl]
theorem choose_run (n:Nat) (hn:0<n) (w:World):∃ i w',i<n∧(choose (.mapNext n)).run P w=.ok i w'∧(w'=w∨w'=w.drew):=by
 by_cases h:n≤1
 · refine ⟨0,w,hn,?_,.inl rfl⟩
   have:(Question.mapNext n).forced=true:=by simp [Question.forced,h]
   simp [run_choose,this]
 · refine ⟨w.tape w.drawn (.mapNext n) % n,w.drew,Nat.mod_lt _ hn,?_,.inr rfl⟩
   have:(Question.mapNext n).forced=false:=by simp [Question.forced]; omega
   simp only [run_choose,this,Bool.false_eq_true,if_false]
   rfl
theorem next_ok {E:Env} {s:St H} {w:World} (hW:WRel E s w) {it it':Value} (hi:VRel E it it') {L:List (Value×St H)} (h:nextsD s it=some L) (ty:TypeId):∃ i,∃ hl:i<L.length,Goes E w (L[i]).2 (L[i]).1 ((Instr.next it' false ty).run P w):=by
 unfold nextsD at h
 split at h
 next r =>
  obtain ⟨rfl,hid⟩:=hi.ptr_inv
  split at h
  next a b c hg =>
   injection h with h; subst h
   have hR:IterRel E w r none a b c:=hW.obj r _ hg
   refine ⟨0,by simp,E,.tuple #[.bool false],w,?_,?_,hW,.refl E w⟩
   · have:=hR.is
     simp only [hR.at0,Instr.next,getObj,Sem.run_bind,Sem.run,this,Result.andThen_ok,Option.map_none]
     rfl
   · exact VRel.tupleL (l:=[.bool false]) (l':=[.bool false]) (.cons (.bool false) (.nil E))
  next m since seen last hg =>
   obtain ⟨es,hes,h⟩:=bsome h
   have hc:(!seen.isEmpty&&!es.1.isEmpty&&es.1.all fun e=>!Nat.blt e.2.2 last)=false:=by
    cases hq:(!seen.isEmpty&&!es.1.isEmpty&&es.1.all fun e=>!Nat.blt e.2.2 last) with
    | false=>rfl
    | true=>rw [hq] at h; cases h
   rw [hc] at h
   simp only [cond_false] at h
   injection h with h; subst h
   have hR:IterRel E w r (some m) since seen last:=hW.obj r _ hg
   have hgm:=mapD_eq hes
   obtain ⟨hownm,es',h1,hER⟩:=(hW.obj m _ hgm:MapRel E w m es.1 es.2)
   obtain ⟨c1,c2,c3⟩:=cand_rel hER since seen
   obtain ⟨i,w1,hilt,hch,hw1⟩:=choose_run (P:=P) (candM es'.toList since seen).length c2 w
   have hW1 : WRel E s w1 := by rcases hw1 with rfl | rfl; · exact hW
                                exact hW.drew
   have hK1 : Keep E w E w1 := by rcases hw1 with rfl | rfl; · exact .refl E _
                                  exact Keep.drew E w
   have hcm:(!seen.toArray.isEmpty&&!es'.isEmpty&&es'.all fun e=>decide (e.born≥last))=false:=by
    rw [← hc]
    have e1:seen.toArray.isEmpty=seen.isEmpty:=by cases seen <;> rfl
    have e2:es'.isEmpty=es.1.isEmpty:=by
      have:=hER.1
      rw [Array.length_toList] at this
      rw [isEmpty_len,this]
      simp [Array.isEmpty]
    have e3:(es'.all fun e=>decide (e.born≥last))=es.1.all fun e=>!Nat.blt e.2.2 last:=by
      rw [← Array.all_toList]
      generalize es'.toList=ml at hER
      generalize es.1=dl at hER
      clear hc
      induction dl generalizing ml with
      | nil =>
       have:ml=[]:=List.eq_nil_of_length_eq_zero hER.1.symm
       subst this; rfl
      | cons e dl ih =>
       obtain ⟨e',l',rfl,_,_,q3,q4⟩:=hER.uncons
       rw [List.all_cons,List.all_cons,ih l' q4,q3]
       congr 1
       by_cases hq:e'.born<last
       · rw [decide_eq_false (by omega),show Nat.blt e'.born last=true from Nat.ble_eq_true_of_le hq]; rfl
       · rw [decide_eq_true (by omega)]
         cases hb:Nat.blt e'.born last with
         | false=>rfl
         | true=>exact absurd (Nat.le_of_ble_eq_true hb) hq
    rw [e1,e2,e3]
   have hcand:(if (es'.filter fun e=>!seen.toArray.contains e.born).filter (fun e=>decide (e.born<since)) |>.isEmpty then #[none] else #[])++(((es'.filter fun e=>!seen.toArray.contains e.born).filter fun e=>decide (e.born<since))++((es'.filter fun e=>!seen.toArray.contains e.born).filter fun e=>decide (e.born≥since))).map some=(candM es'.toList since seen).toArray:=by
    apply Array.toList_inj.1
    unfold candM
    dsimp only
    have e1:((es'.filter fun e=>!seen.toArray.contains e.born).filter fun e=>decide (e.born<since)).isEmpty=((es'.toList.filter fun e=>!seen.contains e.born).filter fun e=>decide (e.born<since)).isEmpty:=by
      rw [← Array.isEmpty_toList]
      simp
    rw [e1]
    split <;> simp
   have hrun:∀ (c:Option MapEntry),(candM es'.toList since seen)[i]?=some c→(Instr.next (.pointer (some ⟨E.blk r,E.off r+0,none⟩)) false ty).run P w=((match c with
      | some e=>do
       setObj (E.blk r) (.mapIter (some (E.blk m)) since (seen.toArray.push e.born) es.2)
       pure (.tuple #[.bool true,e.key,e.val])
      | none=>pure (.tuple #[.bool false]):Sem Value)).run P w1:=by
    intro c hcc
    have hit:=hR.is
    simp only [Option.map_some] at hit
    unfold Instr.next
    simp only [hR.at0,Sem.run_bind,getObj,Sem.run,hit,Result.andThen_ok,h1]
    rw [hcm]
    simp only [Bool.false_eq_true,if_false]
    rw [hcand,Sem.run_bind,List.size_toArray,hch,Result.andThen_ok,List.getElem?_toArray,hcc]
    cases c <;> rfl
   have hil:i<(candD es.1 since seen).length:=by omega
   refine ⟨i,by simpa using hil,?_⟩
   have hget:((candD es.1 since seen).map (nextIt s r m since es.2 seen))[i]'(by simpa using hil)=nextIt s r m since es.2 seen (candD es.1 since seen)[i]:=by simp
   rw [hget]
   rcases c3 i hil hilt with ⟨q1,q2⟩ | ⟨e,e',q1,q2,q3,q4,q5⟩
   · rw [hrun none (by rw [List.getElem?_eq_getElem hilt,q2]),q1]
     exact ⟨E,_,_,rfl,VRel.tupleL (l:=[.bool false]) (l':=[.bool false]) (.cons (.bool false) (.nil E)),hW1,hK1⟩
   · rw [hrun (some e') (by rw [List.getElem?_eq_getElem hilt,q2]),q1]
     obtain ⟨k1,k2⟩:=setIter_ok hW1 hg (seen++[e.2.2]) es.2
     have hR1:IterRel E w1 r (some m) since seen last:=hW1.obj r _ hg
     have hset:(setObj (E.blk r) (.mapIter (some (E.blk m)) since (seen.toArray.push e'.born) es.2)).run P w1=.ok () { w1 with heap:=w1.heap.setIfInBounds (E.blk r) (.mapIter (some (E.blk m)) since (seen.toArray.push e'.born) es.2) }:=by
      have:=hR1.is
      simp only [setObj,Sem.run,this]
     refine ⟨E,.tuple #[.bool true,e'.key,e'.val],_,?_,?_,k1,hK1.trans k2⟩
     · simp only [Sem.run_bind,hset,Result.andThen_ok,Sem.run_pure]
       have:(seen++[e.2.2]).toArray=seen.toArray.push e'.born:=by rw [q5]; simp
       rw [this]; rfl
     · exact VRel.tupleL (l:=[.bool true,e.1,e.2.1]) (l':=[.bool true,e'.key,e'.val]) (.cons (.bool true) (.cons q3 (.cons q4 (.nil E))))
  next=>cases h
 next=>cases h
theorem eval_rel {E:Env} {t:List Value} {a:Act} (hT:LRel E t a.tmps.toList) (x:Operand):VRel E (evalO t x) (a.eval x):=by
 cases x with
 | tmp i =>
  have:=hT.getD i (VRel.undef E)
  simpa [evalO,Act.eval,Array.getD_eq_getD_getElem?,List.getD_eq_getElem?_getD] using this
 | const v =>
  simp only [evalO,Act.eval]
  cases hf:flat v with
  | true=>exact nz_rel hf
  | false=>exact .dc _
 | global g=>exact .gp g 0
 | func f=>exact .func f #[] #[] #[] #[] rfl rfl (fun i h=>by simp at h) (fun i h=>by simp at h)
theorem eval_orel {E:Env} {t:List Value} {a:Act} (hT:LRel E t a.tmps.toList) (x:Option Operand):ORel E (x.map (evalO t)) (x.map a.eval):=by
 cases x with
 | none=>exact .inl ⟨rfl,rfl⟩
 | some x=>exact .inr ⟨_,_,rfl,rfl,eval_rel hT x⟩
theorem eval_list {E:Env} {t:List Value} {a:Act} (hT:LRel E t a.tmps.toList):∀ (l:List Operand),LRel E (l.map (evalO t)) (l.map a.eval)
 | []=>.nil E
 | x::l=>.cons (eval_rel hT x) (eval_list hT l)
theorem eval_arr {E:Env} {t:List Value} {a:Act} (hT:LRel E t a.tmps.toList) (l:Array Operand):LRel E (l.map (evalO t)).toList (l.map a.eval).toList:=by
 rw [Array.toList_map,Array.toList_map]; exact eval_list hT l.toList
theorem eval_parts {E:Env} {t:List Value} {a:Act} (hT:LRel E t a.tmps.toList) (l:List (Nat×Operand)) :
 LRel E ((l.map fun x=>(x.1,evalO t x.2)).map (·.2)) ((l.map fun x=>(x.1,a.eval x.2)).map (·.2))∧(l.map fun x=>(x.1,evalO t x.2)).map (·.1)=(l.map fun x=>(x.1,a.eval x.2)).map (·.1):=by
 constructor
 · rw [List.map_map,List.map_map]
   induction l with
   | nil=>exact .nil E
   | cons x l ih=>exact .cons (eval_rel hT x.2) ih
 · rw [List.map_map,List.map_map]; rfl
theorem arr_parts {a:Act} (l:Array (Nat×Operand)):(l.map fun (i,x)=>(i,a.eval x))=(l.toList.map fun x=>(x.1,a.eval x.2)).toArray:=by
 apply Array.toList_inj.1; simp
theorem entry_ok {E:Env} {s:St H} {w:World} (hW:WRel E s w) {it it' v:Value} (hi:VRel E it it') (h:entryD s it=some v):∃ v',(Instr.entry it').run P w=.ok v' w∧VRel E v v':=by
 unfold entryD at h
 split at h
 next r =>
  obtain ⟨rfl,hid⟩:=hi.ptr_inv
  split at h
  next m since seen last hg =>
   obtain ⟨b,hb,h⟩:=bsome h
   obtain ⟨es,hes,h⟩:=bsome h
   obtain ⟨hcl,h⟩:=csome h
   have hcl:=Nat.eq_of_beq_eq_true hcl
   obtain ⟨i,hii,h⟩:=bsome h
   obtain ⟨e,he,rfl⟩:=msome h
   have hR:IterRel E w r (some m) since seen last:=hW.obj r _ hg
   have hgm:=mapD_eq hes
   obtain ⟨_,es',h1,hER⟩:=(hW.obj m _ hgm:MapRel E w m es.1 es.2)
   obtain ⟨_,hfi⟩:=born_at hER hii
   rw [Nat.sub_zero] at hfi
   have hil:i<es.1.length:=(List.getElem?_eq_some_iff.1 he).1
   have hil':i<es'.toList.length:=by rw [← hER.1]; exact hil
   have hrel:=hER.2 i hil hil'
   have e9:es.1[i]=e:=by rw [List.getElem?_eq_getElem hil] at he; injection he
   rw [e9] at hrel
   have hback:seen.toArray.back?=some b:=by rw [← hb]; simp
   have hfind:es'.find? (·.born == b)=some es'.toList[i]:=by
    rw [← Array.find?_toList]
    obtain ⟨q1,q2,q3⟩:=List.findIdx?_eq_some_iff_getElem.1 hfi
    rw [List.find?_eq_some_iff_getElem]
    refine ⟨?_,i,hil',rfl,fun j hj=>?_⟩
    · have:(es'.toList[i].born:Int)=(b:Int):=by simpa using q2
      simp only [beq_iff_eq]; omega
    · have:=q3 j hj
      simp only [beq_iff_eq,Bool.not_eq_true',beq_eq_false_iff_ne,ne_eq] at this ⊢
      omega
   refine ⟨.tuple #[es'.toList[i].key,es'.toList[i].val],?_,VRel.tupleL (l:=[e.1,e.2.1]) (l':=[es'.toList[i].key,es'.toList[i].val]) (.cons hrel.1 (.cons hrel.2.1 (.nil E)))⟩
   have hri:=hR.is
   simp only [Option.map_some] at hri
   simp only [hR.at0,Instr.entry,getObj,Sem.run_bind,Sem.run,hri,h1,Result.andThen_ok,hback,hcl,bne_self_eq_false,Bool.false_eq_true,if_false,hfind]
   rfl
  next=>cases h
 next=>cases h
def Hands (P:Program) (E:Env) (w:World) (o:Oper) (a:Act) (v:Value) (s':St H):Prop :=
 ∃ E' w',WRel E' s' w'∧Keep E w E' w'∧((∃ v',(execOp a.eval o).run P w=.ok (.value v') w'∧VRel E' v v')∨((execOp a.eval o).run P w=.ok .skip w'∧v=undefV))
theorem hands_goes {E:Env} {w:World} {o:Oper} {a:Act} {v:Value} {s':St H} {m:Sem Value} (hx:execOp a.eval o=(do pure (.value (← m)))) (h:Goes E w s' v (m.run P w)):Hands P E w o a v s':=by
 obtain ⟨E',v',w',hr,hv,hW,hK⟩:=h
 exact ⟨E',w',hW,hK,.inl ⟨v',by rw [hx,Sem.run_bind,hr]; rfl,hv⟩⟩
theorem hands_quiet {E:Env} {w:World} {s:St H} (hW:WRel E s w) {o:Oper} {a:Act} {v:Value} {m:Sem Value} (hx:execOp a.eval o=(do pure (.value (← m)))) (h:∃ v',m.run P w=.ok v' w∧VRel E v v'):Hands P E w o a v s:=by
 obtain ⟨v',hr,hv⟩:=h
 exact ⟨E,w,hW,.refl E w,.inl ⟨v',by rw [hx,Sem.run_bind,hr]; rfl,hv⟩⟩
theorem op_sound {E:Env} {s:St H} {w:World} (hW:WRel E s w) {C:Oracle H} {o:Oper} {t:List Value} {a:Act} (hT:LRel E t a.tmps.toList) {k:Value→St H→Option R} {r:R}
 (hc:∀ c,o.op=.call c→∀ f,c.callee≠.value f) (h:opK P md C o t s k=some r):∃ v s',k v s'=some r∧Hands P E w o a v s':=by
 obtain ⟨dst,op,ty,pos,after,guard⟩:=o
 cases op with
 | move x=>exact ⟨_,s,h,hands_quiet hW (m:=pure (a.eval x)) rfl ⟨_,rfl,eval_rel hT x⟩⟩
 | assign x=>exact ⟨_,s,h,hands_quiet hW (m:=pure (a.eval x)) rfl ⟨_,rfl,eval_rel hT x⟩⟩
 | pick c x y =>
  obtain ⟨b,hb,h⟩:=bsome h
  have hc:=eval_rel hT c
  have:evalO t c=.bool b:=by
   unfold boolD at hb
   split at hb
   · rename_i e; injection hb with hb; rw [e,hb]
   · cases hb
  rw [this] at hc
  have hc:=hc.bool_inv
  cases b with
  | true=>exact ⟨_,s,h,E,w,hW,.refl E w,.inl ⟨a.eval x,by simp [execOp,hc,asBool],eval_rel hT x⟩⟩
  | false=>exact ⟨_,s,h,E,w,hW,.refl E w,.inl ⟨a.eval y,by simp [execOp,hc,asBool],eval_rel hT y⟩⟩
 | alloc e =>
  obtain ⟨p,hp,h⟩:=bsome h
  exact ⟨_,_,h,hands_goes rfl (alloc_ok hW hp)⟩
 | box e x =>
  obtain ⟨p,hp,h⟩:=bsome h
  exact ⟨_,_,h,hands_goes rfl (box_ok hW (eval_rel hT x) hp)⟩
 | build e parts =>
  obtain ⟨v,hv,h⟩:=bsome h
  obtain ⟨e1,e2⟩:=eval_parts hT parts.toList
  exact ⟨_,_,h,hands_quiet hW (m:=Instr.build e (parts.toList.map fun x=>(x.1,a.eval x.2)).toArray) (by rw [← arr_parts]; rfl) (build_ok e1 e2 hv w)⟩
 | buildSlice e len parts =>
  obtain ⟨p,hp,h⟩:=bsome h
  obtain ⟨e1,e2⟩:=eval_parts hT parts.toList
  exact ⟨_,_,h,hands_goes (m:=Instr.buildSlice e len (parts.toList.map fun x=>(x.1,a.eval x.2)).toArray) (by rw [← arr_parts]; rfl) (buildSlice_ok hW e1 e2 hp)⟩
 | load e x =>
  obtain ⟨v,hv,h⟩:=bsome h
  exact ⟨_,_,h,hands_quiet hW rfl (load_ok hW (eval_rel hT x) hv)⟩
 | store e x y =>
  obtain ⟨s',hs,h⟩:=bsome h
  obtain ⟨w',h1,h2,h3⟩:=store_ok (P:=P) hW (eval_rel hT x) (eval_rel hT y) hs
  exact ⟨_,_,h,E,w',h2,h3,.inr ⟨by simp only [execOp,Sem.run_bind,h1,Result.andThen_ok]; rfl,rfl⟩⟩
 | nilCheck x =>
  obtain ⟨v,hv,h⟩:=bsome h
  obtain ⟨v',h1,h2⟩:=nilCheck_ok (P:=P) (eval_rel hT x) hv w
  exact ⟨_,_,h,E,w,hW,.refl E w,.inl ⟨v',h1,h2⟩⟩
 | binOp op e x y yt =>
  obtain ⟨v,hv,h⟩:=bsome h
  obtain ⟨h1,h2⟩:=bin_ok (P:=P) (eval_rel hT x) (eval_rel hT y) hv x y w
  exact ⟨_,_,h,hands_quiet hW rfl ⟨v,h1,h2⟩⟩
 | unOp op e x =>
  obtain ⟨v,hv,h⟩:=bsome h
  obtain ⟨hf,hv⟩:=csome hv
  obtain ⟨h1,h2⟩:=pureD_ok hv w
  have:=flat_rel hf (eval_rel hT x)
  exact ⟨_,_,h,hands_quiet hW (m:=Op.unary op (a.eval x)) rfl ⟨v,by rw [this]; exact h1,h2 E⟩⟩
 | convert c d x =>
  obtain ⟨p,hp,h⟩:=bsome h
  exact ⟨_,_,h,hands_goes rfl (convert_ok hW (eval_rel hT x) hp)⟩
 | makeFunc fn first cap =>
  cases fn with
  | func f =>
   have e1:=eval_arr hT first
   have e2:=eval_arr hT cap
   refine ⟨_,s,h,hands_quiet hW (m:=Instr.makeFunc (.func f) (first.map a.eval) (cap.map a.eval)) rfl ⟨_,rfl,?_⟩⟩
   obtain ⟨a1,a2⟩:=LRel.arr e1
   obtain ⟨b1,b2⟩:=LRel.arr e2
   exact .func f _ _ _ _ a1 b1 a2 b2
  | _=>cases h
 | makeSlice e l c =>
  obtain ⟨p,hp,h⟩:=bsome h
  exact ⟨_,_,h,hands_goes rfl (makeSlice_ok hW (eval_rel hT l) (eval_rel hT c) hp)⟩
 | slice e x l hh m =>
  obtain ⟨v,hv,h⟩:=bsome h
  refine ⟨_,_,h,hands_quiet hW (m:=Instr.sliceAt e (a.eval x) (l.map a.eval) (hh.map a.eval) (m.map a.eval)) rfl ?_⟩
  cases hs:sliceD P e (evalO t x) (l.map (evalO t)) (hh.map (evalO t)) (m.map (evalO t)) with
  | some u =>
   rw [hs,Option.some_or] at hv
   injection hv with hv; subst hv
   exact slice_ok (eval_rel hT x) (eval_orel hT l) (eval_orel hT hh) (eval_orel hT m) hs w
  | none =>
   rw [hs,Option.none_or] at hv
   cases m with
   | none=>exact sliceArr_ok hW (eval_rel hT x) (eval_orel hT l) (eval_orel hT hh) hv
   | some m=>cases hv
 | lookup e x i ok =>
  obtain ⟨v,hv,h⟩:=bsome h
  exact ⟨_,_,h,hands_quiet hW rfl (lookup_ok hW (eval_rel hT x) (eval_rel hT i) hv)⟩
 | makeMap e x =>
  obtain ⟨p,hp,h⟩:=bsome h
  obtain ⟨hh,hp⟩:=csome hp
  exact ⟨_,_,h,hands_goes rfl (makeMap_ok hW (eval_orel hT x) hh hp)⟩
 | mapUpdate e m i x =>
  obtain ⟨s',hs,h⟩:=bsome h
  obtain ⟨w',h1,h2,h3⟩:=mapUpdate_ok (P:=P) hW (eval_rel hT m) (eval_rel hT i) (eval_rel hT x) hs
  exact ⟨_,_,h,E,w',h2,h3,.inr ⟨by simp only [execOp,Sem.run_bind,h1,Result.andThen_ok]; rfl,rfl⟩⟩
 | insert e m i x =>
  obtain ⟨s',hs,h⟩:=bsome h
  obtain ⟨w',h1,h2,h3⟩:=mapUpdate_ok (P:=P) hW (eval_rel hT m) (eval_rel hT i) (eval_rel hT x) hs
  exact ⟨_,_,h,E,w',h2,h3,.inr ⟨by simp only [execOp,Sem.run_bind,h1,Result.andThen_ok]; rfl,rfl⟩⟩
 | mapEntry e m i =>
  obtain ⟨p,hp,h⟩:=bsome h
  exact ⟨_,_,h,hands_goes rfl (mapEntry_ok hW (eval_rel hT m) (eval_rel hT i) hp)⟩
 | entry it =>
  obtain ⟨v,hv,h⟩:=bsome h
  obtain ⟨v',hr,hv'⟩:=entry_ok (P:=P) hW (eval_rel hT it) hv
  exact ⟨_,_,h,hands_quiet hW rfl ⟨v',hr,hv'⟩⟩
 | entryStore e m i x =>
  obtain ⟨s',hs,h⟩:=bsome h
  obtain ⟨w',h1,h2,h3⟩:=entryStore_ok (P:=P) hW (eval_rel hT m) (eval_rel hT i) (eval_rel hT x) hs
  exact ⟨_,_,h,E,w',h2,h3,.inr ⟨by simp only [execOp,Sem.run_bind,h1,Result.andThen_ok]; rfl,rfl⟩⟩
 | range e x =>
  obtain ⟨p,hp,h⟩:=bsome h
  exact ⟨_,_,h,hands_goes rfl (range_ok hW (eval_rel hT x) hp)⟩
 | next it isS =>
  obtain ⟨p,hp,h⟩:=bsome h
  cases isS with
  | true=>cases hp
  | false =>
   simp only [cond_false] at hp
   unfold nextD at hp
   split at hp
   next q hq =>
    injection hp with hp; subst hp
    obtain ⟨i,hl,hg⟩:=next_ok (P:=P) hW (eval_rel hT it) hq ty
    have hi:i=0:=by simp at hl; omega
    subst hi
    exact ⟨_,_,h,hands_goes rfl hg⟩
   next=>cases hp
 | fieldAddr e x f =>
  obtain ⟨v,hv,h⟩:=bsome h
  exact ⟨_,_,h,hands_quiet hW rfl (fieldAddr_ok (eval_rel hT x) hv w)⟩
 | field e x f =>
  obtain ⟨v,hv,h⟩:=bsome h
  exact ⟨_,_,h,hands_quiet hW rfl (field_ok (eval_rel hT x) hv w)⟩
 | indexAddr e x i =>
  obtain ⟨v,hv,h⟩:=bsome h
  exact ⟨_,_,h,hands_quiet hW rfl (indexAddr_ok (eval_rel hT x) (eval_rel hT i) hv w)⟩
 | index e x i =>
  obtain ⟨v,hv,h⟩:=bsome h
  exact ⟨_,_,h,hands_quiet hW rfl (index_ok (eval_rel hT x) (eval_rel hT i) hv w)⟩
 | extract x i =>
  obtain ⟨v,hv,h⟩:=bsome h
  refine ⟨_,_,h,hands_quiet hW (m:=Instr.extract (a.eval x) i) rfl ?_⟩
  have hx:=eval_rel hT x
  generalize evalO t x=X at hx hv
  generalize a.eval x=X' at hx
  unfold extractD at hv
  split at hv
  next vs =>
   split at hv
   next b hb =>
    obtain ⟨hi0,hv⟩:=csome hv
    injection hv with hv
    subst hv
    have hi0:=Nat.eq_of_beq_eq_true hi0
    subst hi0
    have hvs:vs=#[.bool b]:=by
     rw [← Array.toArray_toList (xs:=vs),hb]
    subst hvs
    cases hx with
    | tuple _ vs' ha ra =>
     obtain ⟨v',h1,h2⟩:=(LRel.ofArr ha ra).get (i:=0) (v:=.bool b) rfl
     have h1':vs'[0]?=some v':=by simpa using h1
     exact ⟨v',by simp [Instr.extract,h1'],h2⟩
   next=>cases hv
   next hl1 hl =>
    cases hx with
    | dc v'=>exact absurd rfl (hl _)
    | tuple _ vs' ha ra =>
     obtain ⟨v',h1,h2⟩:=(LRel.ofArr ha ra).get hv
     have h1':vs'[i]?=some v':=by simpa using h1
     exact ⟨v',by simp [Instr.extract,h1'],h2⟩
  next=>cases hv
 | call c =>
  obtain ⟨callee,args,ats⟩:=c
  cases callee with
  | value f=>exact absurd rfl (hc _ rfl f)
  | invoke x m=>cases h
  | builtin b =>
   have hargs:args=args.toList.toArray:=by simp
   have hats:ats=ats.toList.toArray:=by simp
   simp only [opK] at h
   generalize args.toList=al at hargs h
   generalize ats.toList=tl at hats h
   subst hargs hats
   cases b with
   | len =>
    match al,tl,h with
    | [x],[e],h =>
     obtain ⟨v,hv,h⟩:=bsome h
     obtain ⟨h1,h2⟩:=lenOf_ok (rt:=ty) hW (eval_rel hT x) hv
     exact ⟨_,_,h,hands_quiet hW (m:=Builtin.len_ #[e] ty #[a.eval x]) (by simp [execOp,resolve,invoke,builtin]) ⟨v,h1,h2⟩⟩
   | cap =>
    match al,tl,h with
    | [x],[e],h =>
     obtain ⟨v,hv,h⟩:=bsome h
     obtain ⟨h1,h2⟩:=capOf_ok (rt:=ty) (eval_rel hT x) hv w
     exact ⟨_,_,h,hands_quiet hW (m:=Builtin.cap_ #[e] ty #[a.eval x]) (by simp [execOp,resolve,invoke,builtin]) ⟨v,h1,h2⟩⟩
   | append =>
    match al,tl,h with
    | [x,y],[e,f],h =>
     obtain ⟨p,hp,h⟩:=bsome h
     refine ⟨_,_,h,hands_goes (m:=Builtin.append_ #[e,f] ty #[a.eval x,a.eval y]) (by simp [execOp,resolve,invoke,builtin]) ?_⟩
     cases hq:isInt P f with
     | true=>rw [hq] at hp; exact appendZ_ok hW hq (eval_rel hT x) (eval_rel hT y) hp
     | false=>rw [hq] at hp; exact append_ok hW (eval_rel hT x) (eval_rel hT y) hp
   | clear =>
    match al,tl,h with
    | [x],[e],h =>
     obtain ⟨s',hs,h⟩:=bsome h
     obtain ⟨w',h1,h2,h3⟩:=clear_ok (P:=P) (rt:=ty) hW (eval_rel hT x) hs
     exact ⟨_,_,h,hands_goes (m:=Builtin.clear_ #[e] ty #[a.eval x]) (by simp [execOp,resolve,invoke,builtin]) ⟨E,_,w',h1,VRel.undef E,h2,h3⟩⟩
   | delete =>
    match al,tl,h with
    | [x,y],e::tl,h =>
     obtain ⟨s',hs,h⟩:=bsome h
     obtain ⟨w',h1,h2,h3⟩:=delete_ok (P:=P) (rt:=ty) (ats:=tl) hW (eval_rel hT x) (eval_rel hT y) hs
     exact ⟨_,_,h,hands_goes (m:=Builtin.delete_ (e::tl).toArray ty #[a.eval x,a.eval y]) (by simp [execOp,resolve,invoke,builtin]) ⟨E,_,w',h1,VRel.undef E,h2,h3⟩⟩
   | copy =>
    match al,tl,h with
    | [x,y],e::tl,h =>
     obtain ⟨p,hp,h⟩:=bsome h
     exact ⟨_,_,h,hands_goes (m:=Builtin.copy_ (e::tl).toArray ty #[a.eval x,a.eval y]) (by simp [execOp,resolve,invoke,builtin]) (copy_ok hW (eval_rel hT x) (eval_rel hT y) hp)⟩
   | min =>
    match al,tl,h with
    | x::l,tl,h =>
     obtain ⟨v,hv,h⟩:=bsome h
     obtain ⟨hf,hv⟩:=csome hv
     simp only [Bool.and_eq_true] at hf
     obtain ⟨h1,h2⟩:=pureD_ok hv w
     have e1:=flat_rel hf.1 (eval_rel hT x)
     have e2:=(eval_list hT l).flats hf.2
     refine ⟨_,_,h,hands_quiet hW (m:=(l.map a.eval).foldlM Builtin.min2 (a.eval x)) (by simp [execOp,resolve,invoke,builtin,Builtin.min_]) ⟨v,?_,h2 E⟩⟩
     rw [e1,e2]; exact h1
   | max =>
    match al,tl,h with
    | x::l,tl,h =>
     obtain ⟨v,hv,h⟩:=bsome h
     obtain ⟨hf,hv⟩:=csome hv
     simp only [Bool.and_eq_true] at hf
     obtain ⟨h1,h2⟩:=pureD_ok hv w
     have e1:=flat_rel hf.1 (eval_rel hT x)
     have e2:=(eval_list hT l).flats hf.2
     refine ⟨_,_,h,hands_quiet hW (m:=(l.map a.eval).foldlM Builtin.max2 (a.eval x)) (by simp [execOp,resolve,invoke,builtin,Builtin.max_]) ⟨v,?_,h2 E⟩⟩
     rw [e1,e2]; exact h1
   | _=>cases h
 | _=>cases h
end Go.FS
