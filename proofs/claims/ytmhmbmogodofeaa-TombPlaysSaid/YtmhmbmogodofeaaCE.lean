import Derived.Test.YtmhmbmogodofeaaCB
set_option linter.unusedVariables false
set_option linter.unusedSimpArgs false
set_option maxRecDepth 100000
namespace Go.Proofs.Ytmhmbmogodofeaa.S
open Go.FS Go.RowKit
open Go.Proofs.Try (prog)
attribute [local congr] bind_cg cond_cg gd_cg
open Go.FS.Q
abbrev LT:=List (Nat×List (Nat×Nat))
def enL:Nat→LT→List EL
 | _,[]=>[]
 | c,e::L=>(e.1,e.2,c)::enL (c+1) L
theorem enL_app:∀ (c:Nat) (L:LT) (e:Nat×List (Nat×Nat)),enL c (L++[e])=enL c L++[(e.1,e.2,c+L.length)]
 | c,[],e=>rfl
 | c,a::L,e=>by
  show (a.1,a.2,c)::enL (c+1) (L++[e])=(a.1,a.2,c)::(enL (c+1) L++[(e.1,e.2,c+(L.length+1))])
  rw [enL_app (c+1) L e,show c+1+L.length=c+(L.length+1) from by omega]
theorem enL_mem:∀ (c:Nat) (L:LT) (x:EL),x∈enL c L→(x.1,x.2.1)∈L
 | c,[],x,h=>by cases h
 | c,a::L,x,h=>by
  rcases List.mem_cons.1 h with rfl | h
  · exact List.mem_cons_self ..
  · exact List.mem_cons_of_mem _ (enL_mem (c+1) L x h)
theorem upd_new {s:SH} {m c:Nat} {es:List En} (h:HP.get s.h m=some (.map (es.map ent) c)) {k:Int} (hnew:∀ e∈es,e.1≠k) (v:Value):mapUpdateD prog s 156 (.map (some m)) (.int .u64 k) v=some (putD s m (.map (es.map ent++[(.int .u64 k,v,c)]) (c+1))):=by
 have e:mapUpdateD prog s 156 (.map (some m)) (.int .u64 k) v=(findD (.int .u64 k) (es.map ent) 0).bind fun r=>match r with
  | some (i,_)=>((es.map ent)[i]?).map fun e=>putD s m (.map ((es.map ent).set i (.int .u64 k,v,e.2.2)) c)
  | none=>some (putD s m (.map ((es.map ent)++[(.int .u64 k,v,c)]) (c+1))):=by
  unfold mapUpdateD
  rw [u156]
  simp only [keyFit70,condT,map_of h,bindS]
  rfl
 rcases find_lk es k 0 with ⟨j,e',h1,h2,h3,h4⟩ | ⟨h1,h2,h3⟩
 · exact absurd h3 (hnew e' (List.mem_of_getElem? h2))
 · rw [e,h1,bindS]
end Go.Proofs.Ytmhmbmogodofeaa.S
namespace Go.Proofs.Ytmhmbmogodofeaa.S
open Go.FS Go.RowKit
open Go.Proofs.Try (prog)
attribute [local congr] bind_cg cond_cg gd_cg
open Go.FS.Q
theorem inj_of_nodup {α β:Type} {f:α→β}:∀ {l:List α},(l.map f).Nodup→∀ e∈l,∀ g∈l,f g=f e→g=e
 | [],_,e,he,_,_,_=>by cases he
 | a::l,h,e,he,g,hg,k=>by
  rw [List.map_cons,List.nodup_cons] at h
  rcases List.mem_cons.1 he with h1 | h1 <;> rcases List.mem_cons.1 hg with h2 | h2
  · rw [h1,h2]
  · exact (h.1 (List.mem_map.2 ⟨g,h2,by rw [k,h1]⟩)).elim
  · exact (h.1 (List.mem_map.2 ⟨e,h1,by rw [← k,h2]⟩)).elim
  · exact inj_of_nodup h.2 e h1 g h2 k
structure Good (E:List EL) (c B:Nat):Prop where
 keys:(E.map (·.1)).Nodup
 births:(E.map (·.2.2)).Nodup
 lt:∀ e∈E,e.2.2<c
 good:∀ e∈E,0<e.1∧e.1<2^64∧e.2.1≠[]∧SpOk true 0 e.2.1
 len:∀ e∈E,e.2.1.length≤B
theorem Good.ok {E:List EL} {c B:Nat} (h:Good E c B):MapOk (E.map toEN) c where
 lt:=fun e he=>by obtain ⟨a,ha,rfl⟩:=List.mem_map.1 he; exact h.lt a ha
 births:=fun e he f hf k=>by
  obtain ⟨a,ha,rfl⟩:=List.mem_map.1 he
  obtain ⟨b,hb,rfl⟩:=List.mem_map.1 hf
  rw [inj_of_nodup h.births a ha b hb k]
 keys:=by rw [List.map_map]; exact h.keys
theorem Good.tm {s:SH} {p m c B:Nat} {E:List EL} (h:Good E c B) (ht:TombAt s p m) (hm:HP.get s.h m=some (.map ((E.map toEn).map ent) c)) (hE:E.length≤1000) (hB:B≤1000):Tm s p m c E :=
 ⟨ht,hm,h.ok,hE,fun e he=>Nat.le_trans (h.len e he) hB,h.good⟩
theorem sp_cn:∀ (l:List (Nat×Nat)) (to:Nat),SpOk false to l→Cn 35184372088832 (to:Int) (l.map toRg)
 | [],_,_=>trivial
 | x::l,to,⟨h1,h2,h3,h4,h5⟩=>by
  have:=h2 rfl
  have hMT:MT=35184372088832:=rfl
  exact ⟨by show (to:Int)+1<(x.1:Int); omega,by show (x.1:Int)≤(x.2:Int); omega,by show (x.2:Int)≤_; omega,sp_cn l x.2 h5⟩
theorem sp_cn0 (l:List (Nat×Nat)) (h:SpOk true 0 l):Cn 35184372088832 (-2) (l.map toRg):=by
 cases l with
 | nil=>trivial
 | cons x l =>
  obtain ⟨h1,h2,h3,h4,h5⟩:=h
  have hMT:MT=35184372088832:=rfl
  exact ⟨by show (-2:Int)+1<(x.1:Int); omega,by show (x.1:Int)≤(x.2:Int); omega,by show (x.2:Int)≤_; omega,sp_cn l x.2 h5⟩
theorem cn_sp:∀ (l:List Rg) (to:Nat),Cn 35184372088832 (to:Int) l→∃ n,l=n.map toRg∧SpOk false to n
 | [],_,_=>⟨[],rfl,trivial⟩
 | x::l,to,⟨h1,h2,h3,h4⟩=>by
  have hMT:MT=35184372088832:=rfl
  have e2:((x.2.toNat:Nat):Int)=x.2:=by omega
  obtain ⟨n,rfl,hn⟩:=cn_sp l x.2.toNat (by rw [e2]; exact h4)
  refine ⟨(x.1.toNat,x.2.toNat)::n,?_,by show to≤x.1.toNat; omega,fun _=>by show to+2≤x.1.toNat; omega,by show x.1.toNat≤x.2.toNat; omega,by show x.2.toNat≤MT; omega,hn⟩
  rw [List.map_cons]
  congr 1
  exact Prod.ext (by show x.1=((x.1.toNat:Nat):Int); omega) e2.symm
theorem cn_sp0 (l:List Rg) (h:Cn 35184372088832 (-2) l):∃ n,l=n.map toRg∧SpOk true 0 n:=by
 cases l with
 | nil=>exact ⟨[],rfl,trivial⟩
 | cons x l =>
  obtain ⟨h1,h2,h3,h4⟩:=h
  have hMT:MT=35184372088832:=rfl
  have e2:((x.2.toNat:Nat):Int)=x.2:=by omega
  obtain ⟨n,rfl,hn⟩:=cn_sp l x.2.toNat (by rw [e2]; exact h4)
  refine ⟨(x.1.toNat,x.2.toNat)::n,?_,Nat.zero_le _,(fun h=>by cases h),by show x.1.toNat≤x.2.toNat; omega,by show x.2.toNat≤MT; omega,hn⟩
  rw [List.map_cons]
  congr 1
  exact Prod.ext (by show x.1=((x.1.toNat:Nat):Int); omega) e2.symm
theorem joinR_ne:∀ (l:List Rg) (x:Rg),joinR l x≠[]
 | [],x=>by unfold joinR; simp
 | y::l,x=>by
  unfold joinR
  split
  · simp
  · split
    · simp
    · exact joinR_ne l _
def upL:List EL→Nat→Nat→List (Nat×Nat)→List EL×Nat
 | [],c,k,l=>([(k,l,c)],c+1)
 | e::es,c,k,l=>if e.1=k then ((k,l,e.2.2)::es,c) else (e::(upL es c k l).1,(upL es c k l).2)
theorem upE_L:∀ (E:List EL) (c k:Nat) (l:List (Nat×Nat)),upE (E.map toEn) c (k:Int) (l.map toRg)=((upL E c k l).1.map toEn,(upL E c k l).2)
 | [],c,k,l=>rfl
 | e::E,c,k,l=>by
  rw [List.map_cons]
  unfold upE upL
  by_cases h:e.1=k
  · rw [if_pos h,if_pos (show (toEn e).1=(k:Int) by show ((e.1:Nat):Int)=k; omega)]; rfl
  · rw [if_neg h,if_neg (show ¬ (toEn e).1=(k:Int) by show ¬ ((e.1:Nat):Int)=k; omega),upE_L E c k l]; rfl
theorem upL_new:∀ (E:List EL) (c k:Nat) (l:List (Nat×Nat)),k∉E.map (·.1)→upL E c k l=(E++[(k,l,c)],c+1)
 | [],c,k,l,_=>rfl
 | e::E,c,k,l,h=>by
  rw [List.map_cons,List.mem_cons,not_or] at h
  unfold upL
  rw [if_neg fun hh=>h.1 hh.symm,upL_new E c k l h.2]; rfl
theorem upL_old:∀ (E:List EL) (c k:Nat) (l:List (Nat×Nat)),k∈E.map (·.1)→(upL E c k l).2=c∧(upL E c k l).1.map (·.1)=E.map (·.1)∧(upL E c k l).1.map (·.2.2)=E.map (·.2.2)∧(∀ e∈(upL E c k l).1,e∈E∨(e.1=k∧e.2.1=l))
 | [],c,k,l,h=>by cases h
 | e::E,c,k,l,h=>by
  unfold upL
  by_cases hk:e.1=k
  · rw [if_pos hk]
    refine ⟨rfl,by rw [List.map_cons,List.map_cons,hk],rfl,fun x hx=>?_⟩
    rcases List.mem_cons.1 hx with rfl | hx
    · exact .inr ⟨rfl,rfl⟩
    · exact .inl (List.mem_cons_of_mem _ hx)
  · rw [if_neg hk]
    rw [List.map_cons,List.mem_cons] at h
    obtain ⟨h1,h2,h3,h4⟩:=upL_old E c k l (h.resolve_left fun hh=>hk hh.symm)
    refine ⟨h1,by rw [List.map_cons,List.map_cons,h2],by rw [List.map_cons,List.map_cons,h3],fun x hx=>?_⟩
    rcases List.mem_cons.1 hx with rfl | hx
    · exact .inl (List.mem_cons_self ..)
    · rcases h4 x hx with h5 | h5
      · exact .inl (List.mem_cons_of_mem _ h5)
      · exact .inr h5
theorem Good.up {E:List EL} {c B k:Nat} {l:List (Nat×Nat)} (h:Good E c B) (hk:0<k) (hk2:k<2^64) (hl:l≠[]) (hs:SpOk true 0 l) (hb:l.length≤B+1):Good (upL E c k l).1 (upL E c k l).2 (B+1)∧(upL E c k l).1.length≤E.length+1:=by
 by_cases hm:k∈E.map (·.1)
 · obtain ⟨h1,h2,h3,h4⟩:=upL_old E c k l hm
   refine ⟨⟨by rw [h2]; exact h.keys,by rw [h3]; exact h.births,fun e he=>?_,fun e he=>?_,fun e he=>?_⟩,?_⟩
   · rw [h1]
     have:e.2.2∈E.map (·.2.2):=by rw [← h3]; exact List.mem_map.2 ⟨e,he,rfl⟩
     obtain ⟨a,ha,hab⟩:=List.mem_map.1 this
     rw [← hab]; exact h.lt a ha
   · rcases h4 e he with h5 | ⟨h5,h6⟩
     · exact h.good e h5
     · rw [h5,h6]; exact ⟨hk,hk2,hl,hs⟩
   · rcases h4 e he with h5 | ⟨h5,h6⟩
     · exact Nat.le_succ_of_le (h.len e h5)
     · rw [h6]; exact hb
   · have:=congrArg List.length h2
     rw [List.length_map,List.length_map] at this
     omega
 · rw [upL_new E c k l hm]
   refine ⟨⟨?_,?_,fun e he=>?_,fun e he=>?_,fun e he=>?_⟩,by rw [List.length_append]; exact Nat.le_refl _⟩
   · rw [List.map_append,List.nodup_append]
     refine ⟨h.keys,by simp,fun a ha b hb=>?_⟩
     simp only [List.map_cons,List.map_nil,List.mem_singleton] at hb
     subst hb
     rintro rfl
     exact hm ha
   · rw [List.map_append,List.nodup_append]
     refine ⟨h.births,by simp,fun a ha b hb=>?_⟩
     simp only [List.map_cons,List.map_nil,List.mem_singleton] at hb
     subst hb
     obtain ⟨e,he,rfl⟩:=List.mem_map.1 ha
     have:=h.lt e he
     omega
   · rcases List.mem_append.1 he with he | he
     · have:=h.lt e he; omega
     · rw [List.mem_singleton] at he; subst he; exact Nat.lt_succ_self c
   · rcases List.mem_append.1 he with he | he
     · exact h.good e he
     · rw [List.mem_singleton] at he; subst he; exact ⟨hk,hk2,hl,hs⟩
   · rcases List.mem_append.1 he with he | he
     · exact Nat.le_succ_of_le (h.len e he)
     · rw [List.mem_singleton] at he; subst he; exact hb
theorem lkN_good {E:List EL} {c B:Nat} (h:Good E c B) (k:Nat):(lkN E k).length≤B∧SpOk true 0 (lkN E k):=by
 have:∀ E:List EL,(∀ e∈E,e.2.1.length≤B∧SpOk true 0 e.2.1)→(lkN E k).length≤B∧SpOk true 0 (lkN E k):=by
  intro E
  induction E with
  | nil=>intro _; exact ⟨Nat.zero_le _,trivial⟩
  | cons e E ih =>
   intro h
   unfold lkN
   split
   · exact h e (List.mem_cons_self ..)
   · exact ih fun x hx=>h x (List.mem_cons_of_mem _ hx)
 exact this E fun e he=>⟨h.len e he,(h.good e he).2.2.2⟩
theorem Good.one {E:List EL} {c B:Nat} {k:Int} {r:Rg} (h:Good E c B) (hk:0<k) (hk2:k<2^64) (hr:rightR r [5]=true) :
 ∃ E' c',upE (E.map toEn) c k (joinF (lk (E.map toEn) k) r)=(E'.map toEn,c')∧Good E' c' (B+1)∧E'.length≤E.length+1:=by
 obtain ⟨n,rfl⟩:∃ n:Nat,k=(n:Int):=⟨k.toNat,by omega⟩
 obtain ⟨h1,h2⟩:=lkN_good h n
 have hcn:=sp_cn0 _ h2
 obtain ⟨r0,r1,r2⟩:=(right5 r).1 hr
 rw [lk_N,joinF_R hcn hr]
 have hl:=joinF_len ((lkN E n).map toRg) r
 rw [joinF_R hcn hr,List.length_map] at hl
 obtain ⟨l,e,hs⟩:=cn_sp0 _ (joinR_cn _ (-2) r hcn (by omega) r1 r2)
 have hne:=joinR_ne ((lkN E n).map toRg) r
 rw [e] at hl hne ⊢
 rw [List.length_map] at hl
 obtain ⟨k1,k2⟩:=h.up (k:=n) (l:=l) (by omega) (by omega) (fun hh=>hne (by rw [hh]; rfl)) hs (by omega)
 exact ⟨_,_,upE_L E c n l,k1,k2⟩
theorem rises_pos:∀ (l:List Int) (last:Int),0≤last→rises last l=true→∀ x∈l,0<x
 | [],_,_,_,x,hx=>by cases hx
 | a::l,last,h0,h,x,hx=>by
  unfold rises at h
  rw [Bool.and_eq_true] at h
  have h1:=of_decide_eq_true h.1
  rcases List.mem_cons.1 hx with rfl | hx
  · omega
  · exact rises_pos l a (by omega) h.2 x hx
theorem Good.add {r:Rg} (hr:rightR r [5]=true):∀ (ids:List Int) {E:List EL} {c B:Nat},Good E c B→(∀ k∈ids,0<k∧k<2^64) →
 ∃ E' c',addE (E.map toEn) c r ids=(E'.map toEn,c')∧Good E' c' (B+ids.length)∧E'.length≤E.length+ids.length
 | [],E,c,B,h,_=>⟨E,c,rfl,h,Nat.le_refl _⟩
 | k::ids,E,c,B,h,hk=>by
  obtain ⟨k1,k2⟩:=hk k (List.mem_cons_self ..)
  obtain ⟨E1,c1,e1,h1,l1⟩:=h.one k1 k2 hr
  obtain ⟨E2,c2,e2,h2,l2⟩:=Good.add hr ids h1 fun x hx=>hk x (List.mem_cons_of_mem _ hx)
  refine ⟨E2,c2,?_,by rw [List.length_cons,Nat.add_comm ids.length 1,← Nat.add_assoc]; exact h2,by rw [List.length_cons]; omega⟩
  have:addE (E.map toEn) c r (k::ids)=addE (upE (E.map toEn) c k (joinF (lk (E.map toEn) k) r)).1 (upE (E.map toEn) c k (joinF (lk (E.map toEn) k) r)).2 r ids:=rfl
  rw [this,e1]
  exact e2
theorem enOk_mem:∀ {L:LT} {last:Nat},EnOk last L→∀ e∈L,last<e.1∧e.1<2^64∧e.2≠[]∧SpOk true 0 e.2
 | [],_,_,e,he=>by cases he
 | a::L,last,⟨h1,h2,h3,h3',h4,h5⟩,e,he=>by
  rcases List.mem_cons.1 he with rfl | he
  · exact ⟨h1,h2,h3,h4⟩
  · have:=enOk_mem h5 e he; exact ⟨by omega,this.2⟩
theorem enL_keys:∀ (c:Nat) (L:LT),(enL c L).map (·.1)=L.map (·.1)
 | _,[]=>rfl
 | c,e::L=>by show e.1::(enL (c+1) L).map (·.1)=_; rw [enL_keys (c+1) L]; rfl
theorem enL_len:∀ (c:Nat) (L:LT),(enL c L).length=L.length
 | _,[]=>rfl
 | c,e::L=>by show (enL (c+1) L).length+1=_; rw [enL_len (c+1) L]; rfl
theorem enL_born:∀ (c:Nat) (L:LT),∀ e∈enL c L,c≤e.2.2∧e.2.2<c+L.length
 | _,[],e,he=>by cases he
 | c,a::L,e,he=>by
  rcases List.mem_cons.1 he with rfl | he
  · exact ⟨Nat.le_refl _,by rw [List.length_cons]; show c<_; omega⟩
  · have:=enL_born (c+1) L e he; rw [List.length_cons]; omega
theorem enL_nodup:∀ (c:Nat) (L:LT),((enL c L).map (·.2.2)).Nodup
 | _,[]=>List.nodup_nil
 | c,a::L=>by
  show (c::(enL (c+1) L).map (·.2.2)).Nodup
  rw [List.nodup_cons]
  refine ⟨fun h=>?_,enL_nodup (c+1) L⟩
  obtain ⟨e,he,h2⟩:=List.mem_map.1 h
  have:=enL_born (c+1) L e he
  omega
theorem listOf_ok {E:List EL} {c B:Nat} (h:Good E c B) (hB:B<2^64):EnOk 0 (listOf E):=by
 have hs:=keysOf_sorted (E.map toEN)
 have hp:=keysOf_perm (E.map toEN)
 have hk:∀ k∈keysOf (E.map toEN),∃ e∈E,e.1=k:=fun k hk=>by
  have:=hp.mem_iff.1 hk
  rw [List.map_map] at this
  obtain ⟨e,he,rfl⟩:=List.mem_map.1 this
  exact ⟨e,he,rfl⟩
 have hnd:(keysOf (E.map toEN)).Nodup:=hp.nodup_iff.2 h.ok.keys
 have hne:∀ e∈E,lkN E e.1≠[]:=by
  intro e he
  have:∀ E:List EL,(∀ f∈E,f.2.1≠[])→e∈E→lkN E e.1≠[]:=by
   intro E
   induction E with
   | nil=>intro _ h; cases h
   | cons a E ih =>
    intro h1 h2
    unfold lkN
    split
    · exact h1 a (List.mem_cons_self ..)
    · next hh =>
      rcases List.mem_cons.1 h2 with rfl | h2
      · exact absurd rfl hh
      · exact ih (fun f hf=>h1 f (List.mem_cons_of_mem _ hf)) h2
  exact this E (fun f hf=>(h.good f hf).2.2.1) he
 unfold listOf
 have:∀ (ks:List Nat) (last:Nat),ks.Pairwise (·≤·)→ks.Nodup→(∀ k∈ks,last<k∧∃ e∈E,e.1=k)→EnOk last (ks.map fun k=>(k,lkN E k)):=by
  intro ks
  induction ks with
  | nil=>intro _ _ _ _; exact trivial
  | cons k ks ih =>
   intro last h1 h2 h3
   rw [List.pairwise_cons] at h1
   rw [List.nodup_cons] at h2
   obtain ⟨g1,e,he,rfl⟩:=h3 k (List.mem_cons_self ..)
   refine ⟨g1,(h.good e he).2.1,hne e he,by have:=(lkN_good h e.1).1; show (lkN E e.1).length<_; omega,(lkN_good h e.1).2,ih e.1 h1.2 h2.2 fun k' hk'=>⟨?_,(h3 k' (List.mem_cons_of_mem _ hk')).2⟩⟩
   have:=h1.1 k' hk'
   have:e.1≠k':=fun hh=>h2.1 (by rw [hh]; exact hk')
   omega
 exact this _ 0 hs hnd fun k hk'=>by obtain ⟨e,he,h1⟩:=hk k hk'; exact ⟨by rw [← h1]; exact (h.good e he).1,e,he,h1⟩
end Go.Proofs.Ytmhmbmogodofeaa.S
namespace Go.Proofs.Ytmhmbmogodofeaa.S
open Go.FS Go.RowKit
open Go.Proofs.Try (prog)
attribute [local congr] bind_cg cond_cg gd_cg
open Go.FS.Q
theorem bytesOf_by (bs:List UInt8):bytesOf (bs.map by').flatten=some bs:=by
 induction bs with
 | nil=>rfl
 | cons b bs ih =>
  show (bytesOf (bs.map by').flatten).map (fun r=>UInt8.ofNat (Int.toNat (b.toNat:Int))::r)=_
  rw [ih,Int.toNat_natCast,UInt8.ofNat_toNat]; rfl
theorem aggL_fz {α:Type} (enc:α→List Value) (xs:List α):aggL ((xs.map enc).map fun e=>Value.agg e.toArray)=some (xs.map enc).flatten:=by
 induction xs with
 | nil=>rfl
 | cons x xs ih =>
  show (aggL ((xs.map enc).map fun e=>Value.agg e.toArray)).map ((enc x).toArray.toList++·)=_
  rw [ih]; simp
theorem conv_bs (s:SH) (m:Nat) (bs:List UInt8):convertD prog false s 35 9 (sl by' m bs)=some (.string ⟨bs.toArray⟩,s):=by
 have hf:fzOk 1 ((bs.map by').map fun e=>Value.agg e.toArray).toArray=true:=fzOk_fz fun e he=>by obtain ⟨x,_,rfl⟩:=List.mem_map.1 he; rfl
 have hc:cellsD s 1 ((bs.map by').map fun e=>Value.agg e.toArray).toArray.size (.iface m (.tuple ((bs.map by').map fun e=>Value.agg e.toArray).toArray))=some (bs.map by').flatten:=by
  simp only [cellsD,hf,Nat.ble_eq_true_of_le (Nat.le_refl _),Bool.and_self,condT]
  have:((bs.map by').map fun e=>Value.agg e.toArray).toArray.toList.take ((bs.map by').map fun e=>Value.agg e.toArray).toArray.size=(bs.map by').map fun e=>Value.agg e.toArray:=by
   rw [List.take_of_length_le (by simp)]
  rw [this,aggL_fz]
 unfold sl fz fzV
 simp only [convertD,u9,u35,u5]
 rw [hc,bindS,bytesOf_by]; rfl
theorem c26 {n m m':Nat} {s:SH} (a:List UInt8):callD prog AT (n+1) (.fn 26) [sl by' m a,sl by' m' a] s=some [(.bool true,s)]:=by
 refine cut_call (fn:=Try.f26) rfl rfl (by kernel_rfl) (v:=.bool true) (fun _ h=>by cases h) (.bool _) ?_
 show One (bodyD prog false _ _ 26 Try.f26 _ s) _
 rw [f26_r]
 have e:bopD prog .eql 9 (.string ⟨a.toArray⟩) (.string ⟨a.toArray⟩)=some (.bool ((⟨a.toArray⟩:ByteArray).toList == (⟨a.toArray⟩:ByteArray).toList)):=rfl
 simp only [f26,oO,bindS,many1,jnE,boolS,gdB,fst',snd',conv_bs,e,beq_self_eq_true]
 exact One.ret ⟨rfl,.refl s⟩
theorem b_peq {t e:TypeId} (hu:(prog).underlying t=some (.pointer e)) (a:Addr):bopD prog .eql t (.pointer (some a)) (.pointer none)=some (.bool false):=by
 simp only [bopD,binD,nilD,hu,nilEq]; rfl
theorem c45 {n:Nat} {s:SH}:callD prog AT (n+1) (.fn 45) [] s=some [(.bool true,s)]:=by
 rw [call_i (i:=yes) rfl]; rfl
abbrev Ac:=Int×Rg×List Int×Int
def act (a:Ac):List Value:=[.int .i64 a.1,.int .i64 a.2.1.1,.int .i64 a.2.1.2,sl u6 0 a.2.2.1,.int .u64 a.2.2.2]
theorem act_len (a:Ac):(act a).length=5:=rfl
end Go.Proofs.Ytmhmbmogodofeaa.S
