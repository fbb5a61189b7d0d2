import Derived.Test.YtmhmbmogodofeaaCE
import Derived.Test.YtmhmbmogodofeaaTU
set_option linter.unusedVariables false
set_option linter.unusedSimpArgs false
set_option maxRecDepth 100000
namespace Go.Proofs.Ytmhmbmogodofeaa.S
open Go.FS Go.RowKit
open Go.Proofs.Try (prog)
attribute [local congr] bind_cg cond_cg gd_cg
open Go.FS.Q
theorem gapp35' {lo:Nat} {s:SH} {v:Value} {m2:Nat} {xs ys:List UInt8} (h:Grow lo 1 by' s v xs) (hlo:lo≤s.n) (hb:xs.length+ys.length≤140737488355328) :
 ∃ v' s',appD prog false s 35 35 v (sl by' m2 ys)=some (v',s')∧Grow lo 1 by' s' v' (xs++ys)∧Sm lo s s':=by
 obtain ⟨v',s',h1,h2,h3,_⟩:=gapp35 (m2:=m2) (ys:=ys) h hlo hb
 exact ⟨v',s',h1,h2,h3⟩
theorem put157 {n x:Nat} {s0 s1:SH} {v:Value} {bs:List UInt8} (hG:GB s0 s1 v bs) (hx:x<2^64) (hb:bs.length≤2^45) :
 ∃ v2 s2,callD prog AT (n+1) (.fn 157) [v,U (x:Int)] s1=some [(v2,s2)]∧GB s0 s2 v2 (bs++vput x)∧Ext s1 s2:=by
 obtain ⟨lo,h1,h2,h3⟩:=hG
 obtain ⟨m,rfl⟩:=Grow.form h2
 rw [call_fn (fn:=Try.f157) rfl rfl (by kernel_rfl)]
 suffices hh:One (bodyD prog (AT.row 157) (callD prog AT n) AT.N 157 Try.f157 [sl by' m bs,U (x:Int)] s1) fun v s'=>Grow s1.n 1 by' s' v (bs++vput x)∧Sm s1.n s1 s' by
  obtain ⟨v2,s2,e,k1,k2⟩:=hh
  have k2:Ext s1 s2:=k2
  exact ⟨v2,s2,e,⟨s1.n,h3.1,k1,h3.trans k2⟩,k2⟩
 have hbd:bodyD prog (AT.row 157) (callD prog AT n) AT.N 157 Try.f157 [sl by' m bs,U (x:Int)] s1=f157 (dOps prog) (callD prog AT n) (2^64) (sl by' m bs) (U (x:Int)) s1:=f157_r _ _ _ _ _
 rw [hbd]
 obtain ⟨v2,s2,e2,w1,w2⟩:=gapp35' (lo:=s1.n) (s:=s1) (m2:=m) (xs:=[]) (ys:=bs) (.inl ⟨rfl,.inr rfl⟩) (Nat.le_refl _) (by simp only [List.length_nil]; omega)
 simp only [f157,oO,bindS,many1,jnE,boolS,gdB,fst',snd',bs35_0,e2]
 refine loop_rule (fun d (z:Value×Value) (s':SH)=>∃ (y:Nat) (cs:List UInt8),d=y∧z.1=U (y:Int)∧y<2^64∧Grow s1.n 1 by' s' z.2 cs∧Sm s1.n s1 s'∧cs++vput y=bs++vput x∧cs.length≤bs.length+(bs++vput x).length) (fun R=>One R fun v s'=>Grow s1.n 1 by' s' v (bs++vput x)∧Sm s1.n s1 s') ?_ (2^64) x _ _ ⟨x,bs,rfl,rfl,hx,w1,w2,rfl,by omega⟩ hx
 rintro d ⟨z1,z2⟩ s' ⟨y,cs,rfl,q1,hy,hG,hS,hcat,hcl⟩ nx hnx
 simp only at q1 hG
 subst q1
 have hvl:=vput_len10 hx
 have hcl2:cs.length≤bs.length+10:=by
  have:=congrArg List.length hcat
  rw [List.length_append,List.length_append] at this
  omega
 have hn:s1.n≤s'.n:=hS.1
 by_cases h:(d:Int)≥128
 · have t1:Int.tmod (d:Int) 128=((d % 128:Nat):Int):=rfl
   have t2:Int.tdiv (d:Int) 128=((d / 128:Nat):Int):=rfl
   have w3:IntKind.u64.wrap (128+((d % 128:Nat):Int))=((d % 128+128:Nat):Int):=by rw [wrap_u64 (by omega) (by omega)]; omega
   have w4:IntKind.u64.wrap ((d / 128:Nat):Int)=((d / 128:Nat):Int):=wrap_u64 (by omega) (by omega)
   obtain ⟨v3,s3,e3,w5,w6⟩:=gapp35' (m2:=1) (ys:=[UInt8.ofNat (d % 128+128)]) hG hn (by rw [List.length_singleton]; omega)
   simp only [f157_l0,oO,bindS,many1,jnE,boolS,gdB,fst',snd',bop_geq,h,decide_true,condT,b_rem _ _ _ _ (show (128:Int)≠0 by decide),t1,bop_add,w3,conv_int u70 u5,wrap_u8,bs35,e3,b_quo _ _ _ _ (show (128:Int)≠0 by decide),t2,w4]
   refine hnx (d / 128) (_,_) _ (by omega) ⟨d / 128,_,rfl,rfl,by omega,w5,hS.trans w6,?_,?_⟩
   · rw [← hcat,vput_hi (x:=d) (by omega),List.append_assoc]; rfl
   · have:=congrArg List.length hcat
     rw [vput_hi (x:=d) (by omega),List.length_append,List.length_cons] at this
     rw [List.length_append,List.length_singleton]; omega
 · obtain ⟨v3,s3,e3,w5,w6⟩:=gapp35' (m2:=1) (ys:=[UInt8.ofNat d]) hG hn (by rw [List.length_singleton]; omega)
   simp only [f157_l0,oO,bindS,many1,jnE,boolS,gdB,fst',snd',bop_geq,h,decide_false,condF,beq_yes,condT,conv_int u70 u5,wrap_u8,bs35,e3]
   refine One.ret ⟨?_,hS.trans w6⟩
   rw [← hcat,vput_lo (x:=d) (by omega)]; exact w5
theorem gapp80' {lo:Nat} {s:SH} {v:Value} {m2:Nat} {xs ys:List Rg} (h:Grow lo 2 rg s v xs) (hlo:lo≤s.n) (hb:(xs.length+ys.length)*16≤140737488355328) :
 ∃ v' s',appD prog false s 80 80 v (sl rg m2 ys)=some (v',s')∧Grow lo 2 rg s' v' (xs++ys)∧Sm lo s s'∧(∀ j,j<s.n→HP.get s.h j≠some (.tok xs.length 2)→HP.get s'.h j=HP.get s.h j):=gapp80 h hlo hb
theorem bs80_0 (s:SH):buildSliceD prog false s 80 0 []=some (sl rg 1 [],s):=by kernel_rfl
theorem ixr {m i:Nat} {l:List Rg} (hi:i<l.length):indexAddrD prog 80 (sl rg m l) (I (i:Int))=some (fpV (rg l[i]).toArray 0):=ixs80 rg_len hi
theorem ldr0 (s:SH) (r:Rg):loadD prog s 3 (fpV (rg r).toArray 0)=some (I r.1):=by rw [load_fp,part_one a3]; rfl
theorem ldr1 (s:SH) (r:Rg):loadD prog s 3 (fpV (rg r).toArray 1)=some (I r.2):=by rw [load_fp,part_one a3]; rfl
theorem c107 {n m:Nat} {s:SH} (l:List Rg) (x:Rg) (hc:Cn 35184372088832 (-2) l) (hx:rightR x [5]=true) (hlen:l.length≤2^30):callD prog AT (n+1) (.fn 107) [sl rg m l,.agg (rg x).toArray] s=some [(sl rg 0 (joinR l x),s)]:=by
 obtain ⟨x0,x1,x2⟩:=(right5 x).1 hx
 suffices hh:One (bodyD prog (AT.row 107) (callD prog AT n) AT.N 107 Try.f107 [sl rg m l,.agg (rg x).toArray] s) fun v s'=>Ext s s'∧Grow s.n 2 rg s' v (joinR l x) by
  obtain ⟨v,s',e,he,hg⟩:=hh
  obtain ⟨q,hq,hq2,hq3⟩:=grow_cut hg (n:=s.n) (Nat.le_refl _) (rg_strip s.n)
  have:=hq3 (joinR_ne l x)
  subst this
  rw [← hq]
  exact cut_call (fn:=Try.f107) rfl rfl (by kernel_rfl) (Grow.ntup hg) (by rw [hq]; exact bel_sl (by omega) (rg_bel s.n)) ⟨v,s',e,rfl,he⟩
 have hbd:bodyD prog (AT.row 107) (callD prog AT n) AT.N 107 Try.f107 [sl rg m l,.agg (rg x).toArray] s=f107 (dOps prog) (callD prog AT n) (2^64) (sl rg m l) (.agg (rg x).toArray) s:=f107_r _ _ _ _ _
 rw [hbd]
 have hb:boxD s (.agg (rg x).toArray)=some (pt s.n 0,newD s (.row (rg x))):=box_at rfl rfl
 have hl80:∀ s':SH,lenOfD prog s' 80 (sl rg m l)=some (I (l.length:Int)):=fun s'=>len_sl u80
 simp only [f107,oO,bindS,many1,jnE,boolS,gdB,fst',snd',hb,bs80_0]
 have g0:HP.get (newD s (.row (rg x))).h s.n=some (.row (rg x)):=get_n0 s _
 have S0:Sm s.n s (newD s (.row (rg x))):=(Sm.refl s.n s).new (Nat.le_refl _) _
 have n0:(newD s (.row (rg x))).n=s.n+1:=newD_n _ _
 generalize newD s (.row (rg x))=s1 at *
 refine loop_rule (fun d (z:Value×Value) (s':SH)=>∃ (i:Nat) (out:List Rg) (b:Int),d=l.length-i∧z.2=I (i:Int)∧i≤l.length∧Grow (s.n+1) 2 rg s' z.1 out∧s.n+1≤s'.n∧Sm s.n s s'∧HP.get s'.h s.n=some (.row (rg x))∧out++joinR (l.drop i) x=joinR l x∧Cn 35184372088832 b (l.drop i)∧-2≤b∧out.length≤i) (fun R=>One R fun v s'=>Ext s s'∧Grow s.n 2 rg s' v (joinR l x)) ?_ (2^64) l.length _ _ ⟨0,[], -2,rfl,rfl,Nat.zero_le _,.inl ⟨rfl,.inr rfl⟩,by omega,S0,g0,by rw [List.drop_zero]; rfl,by rw [List.drop_zero]; exact hc,Int.le_refl _,Nat.le_refl _⟩ (by omega)
 rintro d ⟨z1,z2⟩ s' ⟨i,out,b,rfl,q2,hi,hG,hn,hS,hg,hcat,hcn,hb2,hol⟩ nx hnx
 simp only at q2 hG
 subst q2
 have lx0:loadD prog s' 3 (pt s.n 0)=some (I x.1):=ld3at hg rfl
 have w1:IntKind.i64.wrap (x.1-1)=x.1-1:=wrap_i64 (by omega) (by omega)
 have tail : (∀ y, (l.drop i).head? = some y → ¬ y.2 + 1 < x.1) → One (iterS (f107_l1 (dOps (H := HP) prog) (callD prog AT n) (2^64) (sl rg m l) (pt s.n 0)) (fun i74 x75 s76 => (bif Nat.beq i74 2 then
       ((dOps (H:=HP) prog).load s76 69 (pt s.n 0)).bind fun v79 =>
       ((dOps (H:=HP) prog).buildSlice false s76 80 1 [(0,v79)]).bind fun p80 =>
       ((dOps (H:=HP) prog).append false p80.2 80 80 z1 p80.1).bind fun p81 =>
       ((dOps (H:=HP) prog).slc p81.2 80 (sl rg m l) (some x75) none none).bind fun v82 =>
       ((dOps (H:=HP) prog).append false p81.2 80 80 p81.1 v82).bind fun p83 =>
       some [(p83.1,p83.2)] else none)) (fun x77 s78=>some [((fzV 2 #[]),s78)]) (2^64) (I (i:Int)) s') fun v s'=>Ext s s'∧Grow s.n 2 rg s' v (joinR l x):=by
  intro hhead
  refine loop_rule (fun d (z:Value) (s2:SH)=>∃ (j:Nat) (r:Rg) (b:Int),d=l.length-j∧z=I (j:Int)∧j≤l.length∧Grow (s.n+1) 2 rg s2 z1 out∧s.n+1≤s2.n∧Sm s.n s s2∧HP.get s2.h s.n=some (.row (rg r))∧out++joinR (l.drop j) r=joinR l x∧Cn 35184372088832 b (l.drop j)∧-2≤b∧(∀ y,(l.drop j).head?=some y→¬ y.2+1<r.1)∧0≤r.1∧r.1≤r.2∧r.2≤35184372088832) (fun R=>One R fun v s'=>Ext s s'∧Grow s.n 2 rg s' v (joinR l x)) ?_ (2^64) (l.length-i) _ _ ⟨i,x,b,rfl,rfl,hi,hG,hn,hS,hg,hcat,hcn,hb2,hhead,x0,x1,x2⟩ (by omega)
  rintro d z s2 ⟨j,r,b,rfl,rfl,hj,hG,hn,hS,hg,hcat,hcn,hb2,hhead,r0,r1,r2⟩ nx2 hnx2
  have l0:loadD prog s2 3 (pt s.n 0)=some (I r.1):=ld3at hg rfl
  have l1:loadD prog s2 3 (pt s.n 1)=some (I r.2):=ld3at hg rfl
  have w2:IntKind.i64.wrap (r.2+1)=r.2+1:=wrap_i64 (by omega) (by omega)
  have fin:joinR (l.drop j) r=r::l.drop j→One (((dOps (H:=HP) prog).load s2 69 (pt s.n 0)).bind fun v79 =>
   ((dOps (H:=HP) prog).buildSlice false s2 80 1 [(0,v79)]).bind fun p80 =>
   ((dOps (H:=HP) prog).append false p80.2 80 80 z1 p80.1).bind fun p81 =>
   ((dOps (H:=HP) prog).slc p81.2 80 (sl rg m l) (some (I (j:Int))) none none).bind fun v82 =>
   ((dOps (H:=HP) prog).append false p81.2 80 80 p81.1 v82).bind fun p83 =>
   some [(p83.1,p83.2)]) fun v s'=>Ext s s'∧Grow s.n 2 rg s' v (joinR l x):=by
   intro hjn
   have lr:loadD prog s2 69 (pt s.n 0)=some (.agg (rg r).toArray):=by rw [load_row hg,part_agg a69 z69 (l:=rg r) rfl rfl]
   obtain ⟨v3,s3,e3,k1,k2,k3⟩:=gapp80' (m2:=1) (ys:=[r]) hG hn (by rw [List.length_singleton]; omega)
   obtain ⟨m',hs⟩:=slc_from (P:=prog) (s:=s3) (t:=80) (m:=m) (k:=.i64) (xs:=l) u80 z69 rg_len hj
   obtain ⟨v4,s4,e4,k4,k5,k6⟩:=gapp80' (m2:=m') (ys:=l.drop j) k1 (Nat.le_trans hn k2.1) (by rw [List.length_append,List.length_singleton,List.length_drop]; omega)
   simp only [oO,bindS,many1,jnE,boolS,gdB,fst',snd',lr,bs80,e3,hs,e4]
   refine One.ret ⟨⟨by have:=k2.1; have:=k5.1; have:=hS.1; omega,fun i hi=>by rw [k5.2 i (by omega),k2.2 i (by omega)]; exact hS.2 i hi⟩,?_⟩
   rw [hjn] at hcat
   rw [← hcat]
   have e5:out++r::l.drop j=out++[r]++l.drop j:=by simp
   rw [e5]
   rcases k4 with k4 | ⟨id,a1,a2,a3,a4⟩
   · exact .inl k4
   · exact .inr ⟨id,by omega,a2,a3,a4⟩
  by_cases hjl:j<l.length
  · have lt:(j:Int)<(l.length:Int):=by omega
    have hd:l.drop j=l[j]::l.drop (j+1):=List.drop_eq_getElem_cons hjl
    have ix:indexAddrD prog 80 (sl rg m l) (I (j:Int))=some (fpV (rg l[j]).toArray 0):=ixr hjl
    rw [hd] at hcat hcn hhead
    have hfin:=fin
    rw [hd] at hfin
    generalize l[j]=y at *
    obtain ⟨c1,c2,c3,c4⟩:=hcn
    have hy:=hhead y rfl
    by_cases ht:y.1≤r.2+1
    · have st0:storeD prog s2 3 (pt s.n 0) (I (if y.1<r.1 then y.1 else r.1))=some (putD s2 s.n (.row (rg ((if y.1<r.1 then y.1 else r.1),r.2)))):=by
        rw [store_row (l:=[I (if y.1<r.1 then y.1 else r.1)]) z3 hg rfl rfl rfl (by simp [rg])]; rfl
      have hg2:HP.get (putD s2 s.n (.row (rg ((if y.1<r.1 then y.1 else r.1),r.2)))).h s.n=some (.row (rg ((if y.1<r.1 then y.1 else r.1),r.2))):=get_put_same _
      have st1:storeD prog (putD s2 s.n (.row (rg ((if y.1<r.1 then y.1 else r.1),r.2)))) 3 (pt s.n 1) (I (if r.2<y.2 then y.2 else r.2))=some (putD s2 s.n (.row (rg ((if y.1<r.1 then y.1 else r.1),(if r.2<y.2 then y.2 else r.2))))):=by
        rw [store_row (l:=[I (if r.2<y.2 then y.2 else r.2)]) z3 hg2 rfl rfl rfl (by simp [rg]),put_put]; rfl
      have w3:IntKind.i64.wrap ((j:Int)+1)=((j+1:Nat):Int):=by rw [wrap_i64 (by omega) (by omega)]; rfl
      have hmin:minD prog (I r.1) [I y.1]=some (I (if y.1<r.1 then y.1 else r.1)):=min_int .i64 _ _
      have hmax:maxD prog (I r.2) [I y.2]=some (I (if r.2<y.2 then y.2 else r.2)):=max_int .i64 _ _
      simp only [f107_l1,oO,bindS,many1,jnE,boolS,gdB,fst',snd',hl80,bop_lss,lt,decide_true,condT,ix,flf69_0,flf69_1,ldr0,ldr1,fld69_0,fld69_1,l0,l1,bop_add,w2,bop_leq,ht,hmin,hmax,st0,st1,eqO_s,Bool.and_true,w3]
      have hjn:joinR (y::l.drop (j+1)) r=joinR (l.drop (j+1)) (if y.1<r.1 then y.1 else r.1,if r.2<y.2 then y.2 else r.2):=by
        show (if y.2+1<r.1 then _ else if r.2+1<y.1 then _ else _)=_
        rw [if_neg hy,if_neg (by omega)]
      rw [hjn] at hcat
      refine hnx2 (l.length-(j+1)) _ _ (by omega) ⟨j+1,(if y.1<r.1 then y.1 else r.1,if r.2<y.2 then y.2 else r.2),y.2,rfl,rfl,hjl,?_,hn,hS.put (Nat.le_refl _) _,get_put_same _,hcat,c4,by omega,fun y' hy'=>?_,?_,?_,?_⟩
      · exact hG.put _ (by rw [hg]; intro h; cases h)
      · cases hq:l.drop (j+1) with
        | nil=>rw [hq] at hy'; cases hy'
        | cons a t =>
         rw [hq] at hy' c4
         injection hy' with hy'
         subst hy'
         have:=c4.1
         have:=c4.2.1
         show ¬ a.2+1<(if y.1<r.1 then y.1 else r.1)
         split <;> omega
      · show 0≤(if y.1<r.1 then y.1 else r.1)
        split <;> omega
      · show (if y.1<r.1 then y.1 else r.1)≤(if r.2<y.2 then y.2 else r.2)
        split <;> split <;> omega
      · show (if r.2<y.2 then y.2 else r.2)≤_
        split <;> omega
    · simp only [f107_l1,oO,bindS,many1,jnE,boolS,gdB,fst',snd',hl80,bop_lss,lt,decide_true,condT,ix,flf69_0,flf69_1,ldr0,ldr1,fld69_0,fld69_1,l0,l1,bop_add,w2,bop_leq,ht,decide_false,condF,beq_yes]
      have hjn:joinR (y::l.drop (j+1)) r=r::y::l.drop (j+1):=by
        show (if y.2+1<r.1 then _ else if r.2+1<y.1 then _ else _)=_
        rw [if_neg hy,if_pos (by omega)]
      have:=hfin hjn
      simp only [oO,bindS,many1,jnE,boolS,gdB,fst',snd'] at this
      exact this
  · have lt:¬ (j:Int)<(l.length:Int):=by omega
    have hnil:l.drop j=[]:=List.drop_eq_nil_of_le (by omega)
    simp only [f107_l1,oO,bindS,many1,jnE,boolS,gdB,fst',snd',hl80,bop_lss,lt,decide_false,condF,beq_yes,condT]
    have:=fin (by rw [hnil]; rfl)
    simp only [oO,bindS,many1,jnE,boolS,gdB,fst',snd'] at this
    exact this
 by_cases hil:i<l.length
 · have lt:(i:Int)<(l.length:Int):=by omega
   have hd:l.drop i=l[i]::l.drop (i+1):=List.drop_eq_getElem_cons hil
   have ix:indexAddrD prog 80 (sl rg m l) (I (i:Int))=some (fpV (rg l[i]).toArray 0):=ixr hil
   have ld69:loadD prog s' 69 (fpV (rg l[i]).toArray 0)=some (.agg (rg l[i]).toArray):=by rw [load_fp,part_agg a69 z69 (l:=rg l[i]) rfl rfl]
   rw [hd] at tail
   have hcat':=hcat
   rw [hd] at hcn hcat'
   generalize l[i]=y at *
   obtain ⟨c1,c2,c3,c4⟩:=hcn
   by_cases ht:y.2<x.1-1
   · have w3:IntKind.i64.wrap ((i:Int)+1)=((i+1:Nat):Int):=by rw [wrap_i64 (by omega) (by omega)]; rfl
     obtain ⟨v3,s3,e3,k1,k2,k3⟩:=gapp80' (m2:=1) (ys:=[y]) hG hn (by rw [List.length_singleton]; omega)
     simp only [f107_l0,oO,bindS,many1,jnE,boolS,gdB,fst',snd',hl80,bop_lss,lt,decide_true,condT,ix,flf69_1,ldr1,fld69_0,lx0,b_sub,w1,ht,ld69,bs80,e3,bop_add,w3]
     have hjn:joinR (y::l.drop (i+1)) x=y::joinR (l.drop (i+1)) x:=by
      show (if y.2+1<x.1 then _ else _)=_
      rw [if_pos (by omega)]
     rw [hjn] at hcat'
     exact hnx (l.length-(i+1)) (_,_) _ (by omega) ⟨i+1,out++[y],y.2,rfl,rfl,hil,k1,Nat.le_trans hn k2.1,⟨Nat.le_trans hS.1 k2.1,fun j hj=>by rw [k2.2 j (by omega)]; exact hS.2 j hj⟩,by rw [k2.2 s.n (by omega)]; exact hg,by rw [← hcat']; simp,c4,by omega,by rw [List.length_append,List.length_singleton]; omega⟩
   · simp only [f107_l0,oO,bindS,many1,jnE,boolS,gdB,fst',snd',hl80,bop_lss,lt,decide_true,condT,ix,flf69_1,ldr1,fld69_0,lx0,b_sub,w1,ht,decide_false,condF,beq_yes]
     have:=tail fun y' hy'=>by injection hy' with hy'; subst hy'; omega
     simp only [oO,bindS,many1,jnE,boolS,gdB,fst',snd'] at this
     exact this
 · have lt:¬ (i:Int)<(l.length:Int):=by omega
   have hnil:l.drop i=[]:=List.drop_eq_nil_of_le (by omega)
   simp only [f107_l0,oO,bindS,many1,jnE,boolS,gdB,fst',snd',hl80,bop_lss,lt,decide_false,condF,beq_yes,condT]
   have:=tail fun y' hy'=>by rw [hnil] at hy'; cases hy'
   simp only [oO,bindS,many1,jnE,boolS,gdB,fst',snd'] at this
   exact this
end Go.Proofs.Ytmhmbmogodofeaa.S
namespace Go.Proofs.Ytmhmbmogodofeaa.S
open Go.FS Go.RowKit
open Go.Proofs.Try (prog)
attribute [local congr] bind_cg cond_cg gd_cg
open Go.FS.Q
def enE (e:EL):List Value:=[U (e.1:Int),sl rg e.2.2 (e.2.1.map toRg)]
theorem enE_len (e:EL):(enE e).length=2:=rfl
def RefAt (s:SH) (q:Nat) (R:List EL):Prop:=∃ mm,HP.get s.h q=some (.row [sl enE mm R])
theorem RefAt.but {s s':SH} {q:Nat} {R:List EL} (h:RefAt s q R) (k:HP.get s'.h q=HP.get s.h q):RefAt s' q R:=by
 obtain ⟨mm,h⟩:=h
 exact ⟨mm,by rw [k]; exact h⟩
theorem ld91 {s:SH} {q mm:Nat} {R:List EL} (h:HP.get s.h q=some (.row [sl enE mm R])):loadD prog s 91 (pt q 0)=some (sl enE mm R):=ldat a91 h rfl
theorem ixE {mm i:Nat} {R:List EL} (hi:i<R.length):indexAddrD prog 91 (sl enE mm R) (I (i:Int))=some (fpV (enE R[i]).toArray 0):=ixs91 enE_len hi
theorem ldE0 (s:SH) (e:EL):loadD prog s 70 (fpV (enE e).toArray 0)=some (U (e.1:Int)):=by rw [load_fp,part_one a70]; rfl
theorem ldE1 (s:SH) (e:EL):loadD prog s 80 (fpV (enE e).toArray 1)=some (sl rg e.2.2 (e.2.1.map toRg)):=by rw [load_fp,part_one a80]; rfl
theorem ldE (s:SH) (e:EL):loadD prog s 171 (fpV (enE e).toArray 0)=some (.agg (enE e).toArray):=by rw [load_fp,part_agg a171 z171 (l:=enE e) rfl rfl]
theorem len91 (s:SH) (mm:Nat) (R:List EL):lenOfD prog s 91 (sl enE mm R)=some (I (R.length:Int)):=len_sl u91
theorem nilq (q:Nat):nilCheckD (pt q 0)=some (pt q 0):=rfl
theorem lkN_drop {R:List EL} {i k:Nat} (hi:i<R.length):lkN (R.drop i) k=if R[i].1=k then R[i].2.1 else lkN (R.drop (i+1)) k:=by
 rw [List.drop_eq_getElem_cons hi]; rfl
theorem c57 {n q k:Nat} {s:SH} {R:List EL} (h:RefAt s q R) (hlen:R.length≤2^30) (hl:∀ e∈R,e.2.1.length≤2^30) :
 ∃ z,z≤2∧callD prog AT (n+1) (.fn 57) [pt q 0,U (k:Int)] s=some [(sl rg z ((lkN R k).map toRg),s)]:=by
 suffices hh:One (bodyD prog (AT.row 57) (callD prog AT n) AT.N 57 Try.f57 [pt q 0,U (k:Int)] s) fun v s'=>Ext s s'∧Grow s.n 2 rg s' v ((lkN R k).map toRg) by
  obtain ⟨v,s',e,he,hg⟩:=hh
  obtain ⟨z,hz,hz2,hz3⟩:=grow_cut hg (n:=s.n) (Nat.le_refl _) (rg_strip s.n)
  refine ⟨z,by omega,?_⟩
  rw [← hz]
  exact cut_call (fn:=Try.f57) rfl rfl (by kernel_rfl) (Grow.ntup hg) (by rw [hz]; exact bel_sl (by omega) (rg_bel s.n)) ⟨v,s',e,rfl,he⟩
 have hbd:bodyD prog (AT.row 57) (callD prog AT n) AT.N 57 Try.f57 [pt q 0,U (k:Int)] s=f57 (dOps prog) (callD prog AT n) (2^64) (pt q 0) (U (k:Int)) s:=f57_r _ _ _ _ _
 rw [hbd]
 obtain ⟨mm,hg⟩:=h
 simp only [f57]
 refine list_one R (fun i (x:Value×Value) (s':SH)=>x.1=fzV 2 #[]∧x.2=I (i:Int)∧s'=s∧lkN (R.drop i) k=lkN R k) ?_ ?_ ⟨rfl,rfl,rfl,by rw [List.drop_zero]⟩ (by omega)
 · rintro i hi ⟨x1,x2⟩ s' ⟨h1,h2,rfl,hlk⟩ nx hnx
   simp only at h1 h2
   subst h1 h2
   have lt:(i:Int)<(R.length:Int):=by omega
   rw [lkN_drop hi] at hlk
   have ix:=ixE (mm:=mm) hi
   have hmem:=hl _ (List.getElem_mem hi)
   generalize R[i]=e at *
   by_cases hk:e.1=k
   · rw [if_pos hk] at hlk
     have hki:((e.1:Nat):Int)=(k:Int):=by omega
     obtain ⟨v3,s3,e3,k1,k2,k3⟩:=gapp80' (lo:=s'.n) (s:=s') (m2:=e.2.2) (xs:=[]) (ys:=e.2.1.map toRg) (.inl ⟨rfl,.inr rfl⟩) (Nat.le_refl _) (by rw [List.length_map]; simp only [List.length_nil]; omega)
     simp only [f57_l0,oO,bindS,many1,jnE,boolS,gdB,fst',snd',nilq,fld93_0,ld91 hg,len91,bop_lss,lt,decide_true,condT,ix,flf171_0,flf171_1,ldE0,ldE1,bop_eql,hki,bs80_0,e3]
     rw [← hlk]
     exact One.ret ⟨k2,k1⟩
   · rw [if_neg hk] at hlk
     have hki:¬ ((e.1:Nat):Int)=(k:Int):=by omega
     have w:IntKind.i64.wrap ((i:Int)+1)=((i+1:Nat):Int):=by rw [wrap_i64 (by omega) (by omega)]; rfl
     simp only [f57_l0,oO,bindS,many1,jnE,boolS,gdB,fst',snd',nilq,fld93_0,ld91 hg,len91,bop_lss,lt,decide_true,condT,ix,flf171_0,ldE0,bop_eql,hki,decide_false,condF,bop_add,w]
     exact hnx (_,_) _ ⟨rfl,rfl,rfl,hlk⟩
 · rintro ⟨x1,x2⟩ s' ⟨h1,h2,rfl,hlk⟩ nx
   simp only at h1 h2
   subst h1 h2
   have lt:¬ (R.length:Int)<(R.length:Int):=by omega
   rw [List.drop_length] at hlk
   simp only [f57_l0,oO,bindS,many1,jnE,boolS,gdB,fst',snd',nilq,fld93_0,ld91 hg,len91,bop_lss,lt,decide_false,condF,beq_yes,condT]
   rw [← hlk]
   exact One.ret ⟨.refl s',.inl ⟨rfl,.inl rfl⟩⟩
theorem c56 {n q k:Nat} {t:Int} {s:SH} {R:List EL} (h:RefAt s q R) (hlen:R.length≤2^30) (hl:∀ e∈R,e.2.1.length≤2^30) (hlk:(lkN R k).length≤2^30) :
 callD prog AT (n+2) (.fn 56) [pt q 0,U (k:Int),I t] s=some [(.bool (cov ((lkN R k).map toRg) t),s)]:=by
 refine cut_plain (fn:=Try.f56) rfl rfl (by kernel_rfl) (fun _ h=>by cases h) (fun _=>⟨rfl,.bool _⟩) ?_
 have hbd:bodyD prog (AT.row 56) (callD prog AT (n+1)) AT.N 56 Try.f56 [pt q 0,U (k:Int),I t] s=f56 (dOps prog) (callD prog AT (n+1)) (2^64) (pt q 0) (U (k:Int)) (I t) s:=f56_r _ _ _ _ _ _
 rw [hbd]
 obtain ⟨z,hz,e57⟩:=c57 (n:=n) (k:=k) h hlen hl
 simp only [f56,oO,bindS,many1,jnE,boolS,gdB,fst',snd',e57]
 have hll:((lkN R k).map toRg).length≤2^30:=by rw [List.length_map]; exact hlk
 generalize (lkN R k).map toRg=l at *
 have hl80:∀ s':SH,lenOfD prog s' 80 (sl rg z l)=some (I (l.length:Int)):=fun s'=>len_sl u80
 refine list_one l (fun i (x:Value×Value) (s':SH)=>x.2=I (i:Int)∧s'=s∧cov (l.drop i) t=cov l t) ?_ ?_ ⟨rfl,rfl,by rw [List.drop_zero]⟩ (by omega)
 · rintro i hi ⟨x1,x2⟩ s' ⟨h2,rfl,hcv⟩ nx hnx
   simp only at h2
   subst h2
   have lt:(i:Int)<(l.length:Int):=by omega
   have w:IntKind.i64.wrap ((i:Int)+1)=((i+1:Nat):Int):=by rw [wrap_i64 (by omega) (by omega)]; rfl
   rw [List.drop_eq_getElem_cons hi] at hcv
   have hcv:(decide (t≥l[i].1)&&decide (t≤l[i].2)||cov (l.drop (i+1)) t)=cov l t:=hcv
   have ix:=ixr (m:=z) hi
   generalize l[i]=y at *
   by_cases h1:t≥y.1
   · by_cases h2:t≤y.2
     · simp only [h1,h2,decide_true,Bool.and_self,Bool.true_or] at hcv
       simp only [f56_l0,oO,bindS,many1,jnE,boolS,gdB,fst',snd',hl80,bop_lss,lt,decide_true,condT,ix,flf69_0,flf69_1,ldr0,ldr1,bop_geq,h1,bop_leq,h2]
       exact One.ret ⟨by rw [← hcv],.refl s'⟩
     · simp only [h1,h2,decide_true,decide_false,Bool.and_false,Bool.false_or] at hcv
       simp only [f56_l0,oO,bindS,many1,jnE,boolS,gdB,fst',snd',hl80,bop_lss,lt,decide_true,condT,ix,flf69_0,flf69_1,ldr0,ldr1,bop_geq,h1,bop_leq,h2,decide_false,condF,bop_add,w]
       exact hnx (_,_) _ ⟨rfl,rfl,hcv⟩
   · simp only [h1,decide_false,Bool.false_and,Bool.false_or] at hcv
     simp only [f56_l0,oO,bindS,many1,jnE,boolS,gdB,fst',snd',hl80,bop_lss,lt,decide_true,condT,ix,flf69_0,ldr0,bop_geq,h1,decide_false,condF,bop_add,w]
     exact hnx (_,_) _ ⟨rfl,rfl,hcv⟩
 · rintro ⟨x1,x2⟩ s' ⟨h2,rfl,hcv⟩ nx
   simp only at h2
   subst h2
   have lt:¬ (l.length:Int)<(l.length:Int):=by omega
   rw [List.drop_length] at hcv
   simp only [f56_l0,oO,bindS,many1,jnE,boolS,gdB,fst',snd',hl80,bop_lss,lt,decide_false,condF,beq_yes,condT]
   exact One.ret ⟨by rw [← hcv]; rfl,.refl s'⟩
theorem gapp91 {lo:Nat} {s:SH} {v:Value} {m2:Nat} {xs ys:List EL} (h:Grow lo 2 enE s v xs) (hlo:lo≤s.n) (hb:(xs.length+ys.length)*32≤140737488355328) :
 ∃ v' s',appD prog false s 91 91 v (sl enE m2 ys)=some (v',s')∧Grow lo 2 enE s' v' (xs++ys)∧Sm lo s s'∧(∀ j,j<s.n→HP.get s.h j≠some (.tok xs.length 2)→HP.get s'.h j=HP.get s.h j) :=
 h.app (i:=Try.t171) hlo u91 u91 (by kernel_rfl) zr171 rfl (by kernel_rfl) (by kernel_rfl) (by decide) enE_len hb (by omega)
theorem bs91_0 (s:SH):buildSliceD prog false s 91 0 []=some (sl enE 1 [],s):=by kernel_rfl
theorem bs91 (s:SH) (e:EL):buildSliceD prog false s 91 1 [(0,.agg (enE e).toArray)]=some (sl enE 1 [e],s):=by kernel_rfl
theorem formE {lo:Nat} {s:SH} {v:Value} {xs:List EL} (h:Grow lo 2 enE s v xs):∃ m,v=sl enE m xs:=by
 rcases h with ⟨rfl,rfl | rfl⟩ | ⟨id,_,_,rfl,_⟩
 · exact ⟨2,rfl⟩
 · exact ⟨1,rfl⟩
 · exact ⟨_,rfl⟩
theorem st91 {s:SH} {q mm:Nat} {R R':List EL} {m2:Nat} (h:HP.get s.h q=some (.row [sl enE mm R])):storeD prog s 91 (pt q 0) (sl enE m2 R')=some (putD s q (.row [sl enE m2 R'])):=by
 rw [store_row (l:=[sl enE m2 R']) z91 h rfl rfl rfl (Nat.le_refl 1)]; rfl
def dropE (R:List EL) (k:Nat):List EL:=R.filter fun e=>!decide (e.1=k)
theorem c53 {n q k:Nat} {s:SH} {R:List EL} (h:RefAt s q R) (hq:q<s.n) (hlen:R.length≤2^30) :
 ∃ s',callD prog AT (n+1) (.fn 53) [pt q 0,U (k:Int)] s=some [(.tuple #[],s')]∧But q s s'∧RefAt s' q (dropE R k):=by
 suffices hh:One (bodyD prog (AT.row 53) (callD prog AT n) AT.N 53 Try.f53 [pt q 0,U (k:Int)] s) fun v s'=>v=.tuple #[]∧But q s s'∧RefAt s' q (dropE R k) by
  obtain ⟨v,s',e,rfl,h1,h2⟩:=hh
  exact ⟨s',by rw [call_fn (fn:=Try.f53) rfl rfl (by kernel_rfl)]; exact e,h1,h2⟩
 have hbd:bodyD prog (AT.row 53) (callD prog AT n) AT.N 53 Try.f53 [pt q 0,U (k:Int)] s=f53 (dOps prog) (callD prog AT n) (2^64) (pt q 0) (U (k:Int)) s:=f53_r _ _ _ _ _
 rw [hbd]
 obtain ⟨mm,hg⟩:=h
 simp only [f53,oO,bindS,many1,jnE,boolS,gdB,fst',snd',bs91_0]
 refine list_one R (fun i (x:Value×Value) (s':SH)=>∃ out,x.2=I (i:Int)∧Grow s.n 2 enE s' x.1 out∧Sm s.n s s'∧out++dropE (R.drop i) k=dropE R k∧out.length≤i) ?_ ?_ ⟨[],rfl,.inl ⟨rfl,.inr rfl⟩,.refl _ _,by rw [List.drop_zero]; rfl,Nat.le_refl _⟩ (by omega)
 · rintro i hi ⟨x1,x2⟩ s' ⟨out,h2,hG,hS,hcat,hol⟩ nx hnx
   simp only at h2 hG
   subst h2
   have hg':HP.get s'.h q=some (.row [sl enE mm R]):=by rw [hS.2 q hq]; exact hg
   have lt:(i:Int)<(R.length:Int):=by omega
   have w:IntKind.i64.wrap ((i:Int)+1)=((i+1:Nat):Int):=by rw [wrap_i64 (by omega) (by omega)]; rfl
   rw [List.drop_eq_getElem_cons hi] at hcat
   have ix:=ixE (mm:=mm) hi
   generalize R[i]=e at *
   have hcons:dropE (e::R.drop (i+1)) k=if e.1=k then dropE (R.drop (i+1)) k else e::dropE (R.drop (i+1)) k:=by
    unfold dropE
    rw [List.filter_cons]
    by_cases hk:e.1=k <;> simp [hk]
   rw [hcons] at hcat
   by_cases hk:e.1=k
   · rw [if_pos hk] at hcat
     have hki:((e.1:Nat):Int)=(k:Int):=by omega
     simp only [f53_l0,oO,bindS,many1,jnE,boolS,gdB,fst',snd',nilq,fld93_0,ld91 hg',len91,bop_lss,lt,decide_true,condT,ix,flf171_0,ldE0,b_neq,hki,Bool.not_true,condF,bop_add,w]
     exact hnx (_,_) _ ⟨out,rfl,hG,hS,hcat,by omega⟩
   · rw [if_neg hk] at hcat
     have hki:¬ ((e.1:Nat):Int)=(k:Int):=by omega
     obtain ⟨v3,s3,e3,k1,k2,k3⟩:=gapp91 (m2:=1) (ys:=[e]) hG hS.1 (by rw [List.length_singleton]; omega)
     simp only [f53_l0,oO,bindS,many1,jnE,boolS,gdB,fst',snd',nilq,fld93_0,ld91 hg',len91,bop_lss,lt,decide_true,condT,ix,flf171_0,ldE0,b_neq,hki,decide_false,Bool.not_false,ldE,bs91,e3,bop_add,w]
     exact hnx (_,_) _ ⟨out++[e],rfl,k1,hS.trans k2,by rw [← hcat]; simp,by rw [List.length_append,List.length_singleton]; omega⟩
 · rintro ⟨x1,x2⟩ s' ⟨out,h2,hG,hS,hcat,hol⟩ nx
   simp only at h2 hG
   subst h2
   have hg':HP.get s'.h q=some (.row [sl enE mm R]):=by rw [hS.2 q hq]; exact hg
   have lt:¬ (R.length:Int)<(R.length:Int):=by omega
   rw [List.drop_length] at hcat
   have hcat:out=dropE R k:=by rw [← hcat]; simp [dropE]
   obtain ⟨m3,rfl⟩:=formE hG
   simp only [f53_l0,oO,bindS,many1,jnE,boolS,gdB,fst',snd',nilq,fld93_0,ld91 hg',len91,bop_lss,lt,decide_false,condF,beq_yes,condT,st91 hg']
   exact One.ret ⟨rfl,⟨hS.1,fun j hj hne=>by rw [get_put_other hne]; exact hS.2 j hj⟩,m3,by rw [get_put_same,hcat]⟩
end Go.Proofs.Ytmhmbmogodofeaa.S
namespace Go.Proofs.Ytmhmbmogodofeaa.S
open Go.FS Go.RowKit
open Go.Proofs.Try (prog)
attribute [local congr] bind_cg cond_cg gd_cg
open Go.FS.Q
def dat (R:List EL):LT:=R.map fun e=>(e.1,e.2.1)
def SortK (L:LT):Prop:=L.Pairwise fun a b=>a.1<b.1
theorem sortK_uniq {L M:LT} (h1:SortK L) (h2:SortK M) (h:∀ x,x∈L↔x∈M):L=M:=by
 have n1:L.Nodup:=h1.imp fun h e=>by rw [e] at h; exact Nat.lt_irrefl _ h
 have n2:M.Nodup:=h2.imp fun h e=>by rw [e] at h; exact Nat.lt_irrefl _ h
 exact List.Perm.eq_of_pairwise (le:=fun a b:Nat×List (Nat×Nat)=>a.1<b.1) (fun a b _ _ h1 h2=>by omega) h1 h2 ((List.perm_ext_iff_of_nodup n1 n2).2 h)
theorem listOf_sorted {E:List EL} {c B:Nat} (h:Good E c B) (hB:B<2^64):SortK (listOf E):=by
 have:∀ {L:LT} {last:Nat},EnOk last L→SortK L:=by
  intro L
  induction L with
  | nil=>intro _ _; exact .nil
  | cons a L ih =>
   intro last h
   obtain ⟨h1,h2,h3,h3',h4,h5⟩:=h
   exact List.pairwise_cons.2 ⟨fun b hb=>(enOk_mem h5 b hb).1,ih h5⟩
 exact this (listOf_ok h hB)
theorem listOf_mem {E:List EL} (x:Nat×List (Nat×Nat)):x∈listOf E↔x.1∈E.map (·.1)∧x.2=lkN E x.1:=by
 unfold listOf
 rw [List.mem_map]
 have hp:=keysOf_perm (E.map toEN)
 have hm:∀ k,k∈keysOf (E.map toEN)↔k∈E.map (·.1):=fun k=>by
  rw [hp.mem_iff,List.map_map]; rfl
 constructor
 · rintro ⟨k,hk,rfl⟩
   exact ⟨(hm k).1 hk,rfl⟩
 · rintro ⟨h1,h2⟩
   exact ⟨x.1,(hm _).2 h1,by rw [← h2]⟩
def Rel (E R:List EL):Prop:=dat R=listOf E
theorem lkN_dat {R:List EL} (h:SortK (dat R)) {x:Nat×List (Nat×Nat)} (hx:x∈dat R):lkN R x.1=x.2:=by
 induction R with
 | nil=>cases hx
 | cons a R ih =>
  have h:SortK ((a.1,a.2.1)::dat R):=h
  unfold SortK at h
  rw [List.pairwise_cons] at h
  have hx:x∈(a.1,a.2.1)::dat R:=hx
  unfold lkN
  rcases List.mem_cons.1 hx with rfl | hx
  · rw [if_pos rfl]
  · have:=h.1 x hx
    rw [if_neg (by simp only [] at this; omega)]
    exact ih h.2 hx
theorem lkN_none {R:List EL} {k:Nat} (h:k∉R.map (·.1)):lkN R k=[]:=by
 induction R with
 | nil=>rfl
 | cons a R ih =>
  rw [List.map_cons,List.mem_cons,not_or] at h
  unfold lkN
  rw [if_neg fun hh=>h.1 hh.symm]
  exact ih h.2
theorem dat_keys (R:List EL):(dat R).map (·.1)=R.map (·.1):=by unfold dat; rw [List.map_map]; rfl
theorem Rel.lk {E R:List EL} {c B:Nat} (h:Rel E R) (hG:Good E c B) (hB:B<2^64) (k:Nat):lkN R k=lkN E k:=by
 have hs:SortK (dat R):=by rw [h]; exact listOf_sorted hG hB
 by_cases hk:k∈E.map (·.1)
 · have:(k,lkN E k)∈dat R:=by rw [h]; exact (listOf_mem _).2 ⟨hk,rfl⟩
   exact lkN_dat hs this
 · rw [lkN_none hk]
   refine lkN_none fun hh=>hk ?_
   rw [← dat_keys,h] at hh
   obtain ⟨x,hx,rfl⟩:=List.mem_map.1 hh
   exact ((listOf_mem x).1 hx).1
def insE (R:List EL) (k:Nat) (l:List (Nat×Nat)) (m:Nat):List EL:=(dropE R k).takeWhile (fun e=>decide (e.1<k))++(k,l,m)::(dropE R k).dropWhile fun e=>decide (e.1<k)
theorem lkN_upL (E:List EL) (c k k':Nat) (l:List (Nat×Nat)):lkN (upL E c k l).1 k'=if k'=k then l else lkN E k':=by
 induction E with
 | nil =>
  unfold upL lkN
  by_cases h:k'=k
  · rw [if_pos h,if_pos h.symm]
  · rw [if_neg h,if_neg fun hh=>h hh.symm]; rfl
 | cons e E ih =>
  unfold upL
  by_cases h:e.1=k
  · rw [if_pos h]
    unfold lkN
    by_cases hj:k'=k
    · rw [if_pos hj,if_pos hj.symm]
    · rw [if_neg hj,if_neg fun hh=>hj hh.symm,if_neg fun hh=>hj (by rw [← hh,h])]
  · rw [if_neg h]
    show (if e.1=k' then e.2.1 else lkN (upL E c k l).1 k')=_
    rw [ih]
    by_cases hj:k'=k
    · rw [if_neg (by omega),if_pos hj,if_pos hj]
    · rw [if_neg hj,if_neg hj]; rfl
theorem keys_upL (E:List EL) (c k k':Nat) (l:List (Nat×Nat)):k'∈(upL E c k l).1.map (·.1)↔k'∈E.map (·.1)∨k'=k:=by
 by_cases h:k∈E.map (·.1)
 · rw [(upL_old E c k l h).2.1]
   constructor
   · exact .inl
   · rintro (h1 | rfl)
     · exact h1
     · exact h
 · rw [upL_new E c k l h,List.map_append,List.mem_append]
   simp
theorem take_drop_mem {R:List EL} {p:EL→Bool} (x:EL):x∈R↔x∈R.takeWhile p∨x∈R.dropWhile p:=by
 conv=>lhs; rw [← List.takeWhile_append_dropWhile (p:=p) (l:=R)]
 rw [List.mem_append]
theorem tw_lt {R:List EL} {k:Nat}:∀ x∈R.takeWhile (fun e=>decide (e.1<k)),x.1<k:=by
 induction R with
 | nil=>intro x hx; cases hx
 | cons a R ih =>
  intro x hx
  rw [List.takeWhile_cons] at hx
  by_cases h:a.1<k
  · simp only [h,decide_true,if_true] at hx
    rcases List.mem_cons.1 hx with rfl | hx
    · exact h
    · exact ih x hx
  · simp only [h,decide_false] at hx
    cases hx
theorem dw_ge {R:List EL} {k:Nat} (h:SortK (dat R)):∀ x∈R.dropWhile (fun e=>decide (e.1<k)),k≤x.1:=by
 induction R with
 | nil=>intro x hx; cases hx
 | cons a R ih =>
  have h:SortK ((a.1,a.2.1)::dat R):=h
  unfold SortK at h
  rw [List.pairwise_cons] at h
  intro x hx
  rw [List.dropWhile_cons] at hx
  by_cases hk:a.1<k
  · simp only [hk,decide_true,if_true] at hx
    exact ih h.2 x hx
  · simp only [hk,decide_false] at hx
    rcases List.mem_cons.1 hx with rfl | hx
    · omega
    · have:=h.1 (x.1,x.2.1) (List.mem_map.2 ⟨x,hx,rfl⟩)
      simp only [] at this; omega
theorem sub_sorted {R S:List EL} (h:SortK (dat R)) (hs:S.Sublist R):SortK (dat S):=by
 unfold SortK dat at *
 exact h.sublist (hs.map _)
theorem Rel.up {E R:List EL} {c B k m:Nat} {l:List (Nat×Nat)} (h:Rel E R) (hG:Good E c B) (hB:B+1<2^64) (hk:0<k) (hk2:k<2^64) (hl:l≠[]) (hs:SpOk true 0 l) (hb:l.length≤B+1):Rel (upL E c k l).1 (insE R k l m):=by
 have hsR:SortK (dat R):=by rw [h]; exact listOf_sorted hG (by omega)
 have hD:SortK (dat (dropE R k)):=sub_sorted hsR (List.filter_sublist)
 have hmemD:∀ x,x∈dropE R k↔x∈R∧x.1≠k:=fun x=>by
  unfold dropE; rw [List.mem_filter]; simp
 refine sortK_uniq ?_ (listOf_sorted (hG.up hk hk2 hl hs hb).1 hB) fun x=>?_
 · unfold insE dat SortK
   rw [List.map_append,List.map_cons,List.pairwise_append,List.pairwise_cons]
   have ht:SortK (dat ((dropE R k).takeWhile (fun e=>decide (e.1<k)))):=sub_sorted hD (List.takeWhile_sublist _)
   have hd:SortK (dat ((dropE R k).dropWhile (fun e=>decide (e.1<k)))):=sub_sorted hD (List.dropWhile_sublist _)
   have hge:=dw_ge (k:=k) hD
   have hgt:∀ y∈(dropE R k).dropWhile (fun e=>decide (e.1<k)),k<y.1:=fun y hy=>by
    have h1:=hge y hy
    have h2:=((hmemD y).1 ((take_drop_mem y).2 (.inr hy))).2
    omega
   refine ⟨ht,⟨fun y hy=>?_,hd⟩,fun a ha b hb=>?_⟩
   · obtain ⟨z,hz,rfl⟩:=List.mem_map.1 hy
     exact hgt z hz
   · obtain ⟨a',ha',rfl⟩:=List.mem_map.1 ha
     have h1:=tw_lt a' ha'
     rcases List.mem_cons.1 hb with rfl | hb
     · exact h1
     · obtain ⟨b',hb',rfl⟩:=List.mem_map.1 hb
       have h2:=hgt b' hb'
       show a'.1<b'.1
       omega
 · rw [listOf_mem,keys_upL,lkN_upL]
   have hx:x∈dat (insE R k l m)↔(x∈dat R∧x.1≠k)∨x=(k,l):=by
    unfold insE dat
    rw [List.map_append,List.mem_append,List.map_cons,List.mem_cons]
    constructor
    · rintro (hx | rfl | hx)
      · obtain ⟨y,hy,rfl⟩:=List.mem_map.1 hx
        have:=(hmemD y).1 ((take_drop_mem y).2 (.inl hy))
        exact .inl ⟨List.mem_map.2 ⟨y,this.1,rfl⟩,this.2⟩
      · exact .inr rfl
      · obtain ⟨y,hy,rfl⟩:=List.mem_map.1 hx
        have:=(hmemD y).1 ((take_drop_mem y).2 (.inr hy))
        exact .inl ⟨List.mem_map.2 ⟨y,this.1,rfl⟩,this.2⟩
    · rintro (⟨hx,hne⟩ | rfl)
      · obtain ⟨y,hy,rfl⟩:=List.mem_map.1 hx
        rcases (take_drop_mem (p:=fun e=>decide (e.1<k)) y).1 ((hmemD y).2 ⟨hy,hne⟩) with h1 | h1
        · exact .inl (List.mem_map.2 ⟨y,h1,rfl⟩)
        · exact .inr (.inr (List.mem_map.2 ⟨y,h1,rfl⟩))
      · exact .inr (.inl rfl)
   rw [hx,h,listOf_mem]
   constructor
   · rintro (⟨⟨h1,h2⟩,h3⟩ | rfl)
     · exact ⟨.inl h1,by rw [if_neg h3]; exact h2⟩
     · exact ⟨.inr rfl,by rw [if_pos rfl]⟩
   · rintro ⟨h1,h2⟩
     by_cases h3:x.1=k
     · rw [if_pos h3] at h2
       exact .inr (Prod.ext h3 h2)
     · rw [if_neg h3] at h2
       exact .inl ⟨⟨h1.resolve_right h3,h2⟩,h3⟩
def delL (E:List EL) (k:Nat):List EL:=E.filter fun e=>!decide (e.1=k)
theorem Good.del {E:List EL} {c B k:Nat} (h:Good E c B):Good (delL E k) c B :=
 ⟨h.keys.sublist (List.filter_sublist.map _),h.births.sublist (List.filter_sublist.map _),fun e he=>h.lt e (List.mem_filter.1 he).1,fun e he=>h.good e (List.mem_filter.1 he).1,fun e he=>h.len e (List.mem_filter.1 he).1⟩
theorem lkN_del (E:List EL) (k k':Nat) (h:k'≠k):lkN (delL E k) k'=lkN E k':=by
 induction E with
 | nil=>rfl
 | cons e E ih =>
  unfold delL
  rw [List.filter_cons]
  by_cases hk:e.1=k
  · simp only [hk,decide_true,Bool.not_true]
    show lkN (delL E k) k'=if e.1=k' then e.2.1 else lkN E k'
    rw [if_neg (by omega)]; exact ih
  · simp only [hk,decide_false,Bool.not_false,if_true]
    show (if e.1=k' then e.2.1 else lkN (delL E k) k')=if e.1=k' then e.2.1 else lkN E k'
    rw [ih]
theorem Rel.del {E R:List EL} {c B k:Nat} (h:Rel E R) (hG:Good E c B) (hB:B<2^64):Rel (delL E k) (dropE R k):=by
 have hsR:SortK (dat R):=by rw [h]; exact listOf_sorted hG hB
 refine sortK_uniq (sub_sorted hsR List.filter_sublist) (listOf_sorted hG.del hB) fun x=>?_
 have hx:x∈dat (dropE R k)↔x∈dat R∧x.1≠k:=by
  unfold dat dropE
  rw [List.mem_map]
  constructor
  · rintro ⟨y,hy,rfl⟩
    have:=List.mem_filter.1 hy
    exact ⟨List.mem_map.2 ⟨y,this.1,rfl⟩,by simpa using this.2⟩
  · rintro ⟨h1,h2⟩
    obtain ⟨y,hy,rfl⟩:=List.mem_map.1 h1
    exact ⟨y,List.mem_filter.2 ⟨hy,by simpa using h2⟩,rfl⟩
 rw [hx,h,listOf_mem,listOf_mem]
 have hk:∀ k',k'∈(delL E k).map (·.1)↔k'∈E.map (·.1)∧k'≠k:=fun k'=>by
  unfold delL
  rw [List.mem_map,List.mem_map]
  constructor
  · rintro ⟨y,hy,rfl⟩
    have:=List.mem_filter.1 hy
    exact ⟨⟨y,this.1,rfl⟩,by simpa using this.2⟩
  · rintro ⟨⟨y,hy,rfl⟩,h2⟩
    exact ⟨y,List.mem_filter.2 ⟨hy,by simpa using h2⟩,rfl⟩
 rw [hk]
 constructor
 · rintro ⟨⟨h1,h2⟩,h3⟩
   exact ⟨⟨h1,h3⟩,by rw [lkN_del _ _ _ h3]; exact h2⟩
 · rintro ⟨⟨h1,h3⟩,h2⟩
   exact ⟨⟨h1,by rw [lkN_del _ _ _ h3] at h2; exact h2⟩,h3⟩
end Go.Proofs.Ytmhmbmogodofeaa.S
namespace Go.Proofs.Ytmhmbmogodofeaa.S
open Go.FS Go.RowKit
open Go.Proofs.Try (prog)
attribute [local congr] bind_cg cond_cg gd_cg
open Go.FS.Q
theorem Good.oneL {E:List EL} {c B n:Nat} {r:Rg} (h:Good E c B) (hr:rightR r [5]=true) :
 ∃ l,joinR ((lkN E n).map toRg) r=l.map toRg∧l≠[]∧SpOk true 0 l∧l.length≤B+1∧Cn 35184372088832 (-2) ((lkN E n).map toRg)∧upE (E.map toEn) c (n:Int) (joinF (lk (E.map toEn) (n:Int)) r)=((upL E c n l).1.map toEn,(upL E c n l).2):=by
 obtain ⟨h1,h2⟩:=lkN_good h n
 have hcn:=sp_cn0 _ h2
 obtain ⟨r0,r1,r2⟩:=(right5 r).1 hr
 have hl:=joinF_len ((lkN E n).map toRg) r
 rw [joinF_R hcn hr,List.length_map] at hl
 obtain ⟨l,e,hs⟩:=cn_sp0 _ (joinR_cn _ (-2) r hcn (by omega) r1 r2)
 have hne:=joinR_ne ((lkN E n).map toRg) r
 rw [e] at hl hne
 rw [List.length_map] at hl
 refine ⟨l,e,fun hh=>hne (by rw [hh]; rfl),hs,by omega,hcn,?_⟩
 rw [lk_N,joinF_R hcn hr,e]
 exact upE_L E c n l
theorem tw_take (R:List EL) (p:EL→Bool):R.take (R.takeWhile p).length=R.takeWhile p∧R.drop (R.takeWhile p).length=R.dropWhile p:=by
 have h:=List.takeWhile_append_dropWhile (p:=p) (l:=R)
 constructor
 · conv=>lhs; arg 2; rw [← h]
   exact List.take_left
 · conv=>lhs; arg 2; rw [← h]
   exact List.drop_left
theorem b171 (a:Int) (m:Nat) (l:List Rg):buildD prog 171 [(0,U a),(1,sl rg m l)]=some (.agg #[U a,sl rg m l]):=by kernel_rfl
theorem ldu6 (s:SH) (k:Int):loadD prog s 70 (fpV (u6 k).toArray 0)=some (U k):=by rw [load_fp,part_one a70]; rfl
theorem ixu {mm i:Nat} {ids:List Int} (hi:i<ids.length):indexAddrD prog 67 (sl u6 mm ids) (I (i:Int))=some (fpV (u6 ids[i]).toArray 0):=ixs67 u6_len hi
theorem Rel.len {E R:List EL} {c B:Nat} (h:Rel E R) (hG:Good E c B):R.length=E.length∧∀ e∈R,e.2.1.length≤B:=by
 constructor
 · have:=congrArg List.length h
   unfold dat at this
   rw [List.length_map] at this
   rw [this]
   unfold listOf; rw [List.length_map,keys_len]
 · intro e he
   have:(e.1,e.2.1)∈listOf E:=by rw [← h]; exact List.mem_map.2 ⟨e,he,rfl⟩
   have:=((listOf_mem _).1 this).2
   simp only [] at this
   rw [this]; exact (lkN_good hG _).1
theorem f51_pos {n N q id:Nat} {e0:Value} {s:SH} {R:List EL} {k:Nat} {kx:Nat→Value→SH→Option (List (Value×SH))} {kr:Value→SH→Option (List (Value×SH))} {Q:Value→SH→Prop} {mm:Nat} (hg:HP.get s.h q=some (.row [sl enE mm R])) (hlen:R.length≤2^30) (hid:loadD prog s 70 (pt id 0)=some (U (k:Int)))
 (hk:One (kx 4 (I (((R.takeWhile fun e=>decide (e.1<k)).length:Nat):Int)) s) Q) :
 One (iterS (f51_l2 (dOps (H:=HP) prog) (callD prog AT n) N (pt q 0) (pt id 0) e0) kx kr (2^64) (I 0) s) Q:=by
 refine list_one (R.takeWhile fun e=>decide (e.1<k)) (fun i (x:Value) (s':SH)=>x=I (i:Int)∧s'=s) ?_ ?_ ⟨rfl,rfl⟩ (by
  have:(R.takeWhile fun e=>decide (e.1<k)).length≤R.length:=(List.takeWhile_sublist _).length_le
  omega)
 · rintro i hi x s' ⟨rfl,rfl⟩ nx hnx
   have hle:(R.takeWhile fun e=>decide (e.1<k)).length≤R.length:=(List.takeWhile_sublist _).length_le
   have hiR:i<R.length:=by omega
   have lt:(i:Int)<(R.length:Int):=by omega
   have hpre:R[i]=(R.takeWhile fun e=>decide (e.1<k))[i]:=by
    have h:=List.takeWhile_append_dropWhile (p:=fun e:EL=>decide (e.1<k)) (l:=R)
    conv=>lhs; arg 1; rw [← h]
    exact List.getElem_append_left hi
   have hlt:R[i].1<k:=by rw [hpre]; exact tw_lt _ (List.getElem_mem hi)
   have hltI:((R[i].1:Nat):Int)<(k:Int):=by omega
   have w:IntKind.i64.wrap ((i:Int)+1)=((i+1:Nat):Int):=by rw [wrap_i64 (by omega) (by omega)]; rfl
   simp only [f51_l2,oO,bindS,many1,jnE,boolS,gdB,fst',snd',nilq,fld93_0,ld91 hg,len91,bop_lss,lt,decide_true,condT,ixE (mm:=mm) hiR,flf171_0,ldE0,fld171_0,hid,hltI,bop_add,w]
   exact hnx _ _ ⟨rfl,rfl⟩
 · rintro x s' ⟨rfl,rfl⟩ nx
   generalize hj:(R.takeWhile fun e=>decide (e.1<k)).length=j at *
   by_cases hjR:j<R.length
   · have lt:(j:Int)<(R.length:Int):=by omega
     have hnl:¬ R[j].1<k:=by
      intro hh
      have h:=List.takeWhile_append_dropWhile (p:=fun e:EL=>decide (e.1<k)) (l:=R)
      have hd:=(tw_take R fun e=>decide (e.1<k)).2
      rw [hj,List.drop_eq_getElem_cons hjR] at hd
      have:=List.head?_dropWhile_not (fun e:EL=>decide (e.1<k)) R
      rw [← hd] at this
      simp only [List.head?_cons] at this
      simp [hh] at this
     have hltI:¬ ((R[j].1:Nat):Int)<(k:Int):=by omega
     simp only [f51_l2,oO,bindS,many1,jnE,boolS,gdB,fst',snd',nilq,fld93_0,ld91 hg,len91,bop_lss,lt,decide_true,condT,ixE (mm:=mm) hjR,flf171_0,ldE0,fld171_0,hid,hltI,decide_false,condF]
     exact hk
   · have lt:¬ (j:Int)<(R.length:Int):=by omega
     simp only [f51_l2,oO,bindS,many1,jnE,boolS,gdB,fst',snd',nilq,fld93_0,ld91 hg,len91,bop_lss,lt,decide_false,condF]
     exact hk
theorem c51 {n q c B mm:Nat} {s:SH} {E R:List EL} (h:RefAt s q R) (hq:q<s.n) (hR:Rel E R) (hG:Good E c B) (hE:E.length≤2^20) (hB:B≤2^20) (r:Rg) (ids:List Int) (hil:ids.length≤1000) (hids:∀ k∈ids,k<2^64) :
 ∃ s' R' E' c',callD prog AT (n+2) (.fn 51) [pt q 0,.agg (rg r).toArray,sl u6 mm ids] s=some [(.int .i64 (if rightR r ids then 0 else 2),s')]∧But q s s'∧RefAt s' q R'∧Rel E' R'∧(if rightR r ids then addE (E.map toEn) c r ids=(E'.map toEn,c') else E'=E∧c'=c)∧Good E' c' (B+ids.length)∧E'.length≤E.length+ids.length:=by
 suffices hh:One (bodyD prog (AT.row 51) (callD prog AT (n+1)) AT.N 51 Try.f51 [pt q 0,.agg (rg r).toArray,sl u6 mm ids] s) fun v s'=>∃ R' E' c',v=.int .i64 (if rightR r ids then 0 else 2)∧But q s s'∧RefAt s' q R'∧Rel E' R'∧(if rightR r ids then addE (E.map toEn) c r ids=(E'.map toEn,c') else E'=E∧c'=c)∧Good E' c' (B+ids.length)∧E'.length≤E.length+ids.length by
  obtain ⟨v,s',e,R',E',c',rfl,h1⟩:=hh
  exact ⟨s',R',E',c',by rw [call_fn (fn:=Try.f51) rfl rfl (by kernel_rfl)]; exact e,h1⟩
 have hbd:bodyD prog (AT.row 51) (callD prog AT (n+1)) AT.N 51 Try.f51 [pt q 0,.agg (rg r).toArray,sl u6 mm ids] s=f51 (dOps prog) (callD prog AT (n+1)) (2^64) (pt q 0) (.agg (rg r).toArray) (sl u6 mm ids) s:=f51_r _ _ _ _ _ _
 rw [hbd]
 have hb:boxD s (.agg (rg r).toArray)=some (pt s.n 0,newD s (.row (rg r))):=box_at rfl rfl
 have g0:HP.get (newD s (.row (rg r))).h s.n=some (.row (rg r)):=get_n0 s _
 have hB0:But q s (newD s (.row (rg r))):=(But.refl q s).new _
 have hn0:(newD s (.row (rg r))).n=s.n+1:=newD_n _ _
 have hR0:RefAt (newD s (.row (rg r))) q R:=h.but (get_old (by omega))
 have hGl:Good E c (B+ids.length):=⟨hG.keys,hG.births,hG.lt,hG.good,fun e he=>Nat.le_trans (hG.len e he) (Nat.le_add_right _ _)⟩
 have bad:rightR r ids=false→∀ s',But q s s'→RefAt s' q R→One (some [(Value.int .i64 2,s')]) fun v s'=>∃ R' E' c',v=.int .i64 (if rightR r ids then 0 else 2)∧But q s s'∧RefAt s' q R'∧Rel E' R'∧(if rightR r ids then addE (E.map toEn) c r ids=(E'.map toEn,c') else E'=E∧c'=c)∧Good E' c' (B+ids.length)∧E'.length≤E.length+ids.length:=fun hf s' h1 h2=>by
  rw [hf]
  exact One.ret ⟨R,E,c,rfl,h1,h2,hR,by simp,hGl,by omega⟩
 simp only [f51,oO,bindS,many1,jnE,boolS,gdB,fst',snd',hb]
 have l0:loadD prog (newD s (.row (rg r))) 3 (pt s.n 0)=some (I r.1):=ld3at g0 rfl
 have l1:loadD prog (newD s (.row (rg r))) 3 (pt s.n 1)=some (I r.2):=ld3at g0 rfl
 generalize newD s (.row (rg r))=s1 at *
 by_cases q0:r.1<0
 · simp only [fld69_0,l0,bop_lss,q0,decide_true,oO,bindS,many1,jnE,boolS,gdB,fst',snd',condT]
   exact bad (by unfold rightR; rw [decide_eq_false (show ¬ 0≤r.1 by omega)]; simp) s1 hB0 hR0
 by_cases q1:r.1>r.2
 · simp only [fld69_0,fld69_1,l0,l1,bop_lss,q0,decide_false,oO,bindS,many1,jnE,boolS,gdB,fst',snd',condF,bop_gtr,q1,decide_true,condT]
   exact bad (by unfold rightR; rw [decide_eq_false (show ¬ r.1≤r.2 by omega)]; simp) s1 hB0 hR0
 by_cases q2:r.2>35184372088832
 · simp only [fld69_0,fld69_1,l0,l1,bop_lss,q0,decide_false,oO,bindS,many1,jnE,boolS,gdB,fst',snd',condF,bop_gtr,q1,q2,decide_true,condT]
   exact bad (by unfold rightR; rw [decide_eq_false (show ¬ r.2≤35184372088832 by omega)]; simp) s1 hB0 hR0
 have hr5:rightR r [5]=true:=(right5 r).2 ⟨by omega,by omega,by omega⟩
 have hrr:rightR r ids=rises 0 ids:=by
  unfold rightR
  rw [decide_eq_true (show 0≤r.1 by omega),decide_eq_true (show r.1≤r.2 by omega),decide_eq_true (show r.2≤35184372088832 by omega)]; simp
 simp only [fld69_0,fld69_1,l0,l1,bop_lss,q0,decide_false,oO,bindS,many1,jnE,boolS,gdB,fst',snd',condF,bop_gtr,q1,q2]
 have hl67:∀ s':SH,lenOfD prog s' 67 (sl u6 mm ids)=some (I (ids.length:Int)):=fun s'=>len_sl u67
 refine list_one ids (fun i (x:Value×Value×Value) (s':SH)=>∃ last:Int,x.2.1=U last∧x.2.2=I (i:Int)∧s'=s1∧rises last (ids.drop i)=rises 0 ids) ?_ ?_ ⟨0,rfl,rfl,rfl,by rw [List.drop_zero]⟩ (by omega)
 · rintro i hi ⟨x1,x2,x3⟩ s' ⟨last,e2,e3,rfl,hri⟩ nx hnx
   simp only at e2 e3
   subst e2 e3
   have lt:(i:Int)<(ids.length:Int):=by omega
   have w:IntKind.i64.wrap ((i:Int)+1)=((i+1:Nat):Int):=by rw [wrap_i64 (by omega) (by omega)]; rfl
   rw [List.drop_eq_getElem_cons hi] at hri
   have hri:(decide (last<ids[i])&&rises ids[i] (ids.drop (i+1)))=rises 0 ids:=hri
   have ix:=ixu (mm:=mm) hi
   generalize ids[i]=k at *
   by_cases hk:k≤last
   · rw [decide_eq_false (show ¬ last<k by omega),Bool.false_and] at hri
     simp only [f51_l0,oO,bindS,many1,jnE,boolS,gdB,fst',snd',hl67,bop_lss,lt,decide_true,condT,ix,ldu6,bop_leq,hk]
     exact bad (by rw [hrr]; exact hri.symm) s' hB0 hR0
   · rw [decide_eq_true (show last<k by omega),Bool.true_and] at hri
     simp only [f51_l0,oO,bindS,many1,jnE,boolS,gdB,fst',snd',hl67,bop_lss,lt,decide_true,condT,ix,ldu6,bop_leq,hk,decide_false,condF,bop_add,w]
     exact hnx (_,_,_) _ ⟨k,rfl,rfl,rfl,hri⟩
 · rintro ⟨x1,x2,x3⟩ s' ⟨last,e2,e3,rfl,hri⟩ nx
   simp only at e2 e3
   subst e2 e3
   have lt:¬ (ids.length:Int)<(ids.length:Int):=by omega
   rw [List.drop_length] at hri
   have hri:rises 0 ids=true:=hri.symm
   rw [hri] at hrr
   have hpos:=rises_pos ids 0 (Int.le_refl _) hri
   simp only [f51_l0,oO,bindS,many1,jnE,boolS,gdB,fst',snd',hl67,bop_lss,lt,decide_false,condF,beq_yes,condT]
   rw [hrr]
   simp only [if_true]
   refine list_one ids (fun i (x:Value×Value) (s2:SH)=>∃ R' E' c',x.1=I (i:Int)∧addE (E.map toEn) c r (ids.take i)=(E'.map toEn,c')∧Good E' c' (B+i)∧E'.length≤E.length+i∧Rel E' R'∧RefAt s2 q R'∧But q s' s2) ?_ ?_ ⟨R,E,c,rfl,rfl,hG,Nat.le_refl _,hR,hR0,.refl _ _⟩ (by omega)
   · rintro i hi ⟨x1,x2⟩ s2 ⟨R',E',c',e1,hadd,hG',hEl,hR',hRA,hBu⟩ nx hnx
     simp only at e1
     subst e1
     have lt:(i:Int)<(ids.length:Int):=by omega
     have w:IntKind.i64.wrap ((i:Int)+1)=((i+1:Nat):Int):=by rw [wrap_i64 (by omega) (by omega)]; rfl
     have hadd2:addE (E.map toEn) c r (ids.take (i+1))=upE (E'.map toEn) c' ids[i] (joinF (lk (E'.map toEn) ids[i]) r):=by
      rw [List.take_succ_eq_append_getElem hi]
      unfold addE at hadd ⊢
      rw [List.foldl_append,hadd]; rfl
     have hk0:=hpos _ (List.getElem_mem hi)
     have hk64:=hids _ (List.getElem_mem hi)
     have ix:=ixu (mm:=mm) hi
     generalize ids[i]=kI at *
     obtain ⟨k,rfl⟩:∃ k:Nat,kI=(k:Int):=⟨kI.toNat,by omega⟩
     obtain ⟨hRl,hRlen⟩:=hR'.len hG'
     have gr:HP.get s2.h s.n=some (.row (rg r)):=by rw [hBu.2 s.n (by omega) (by omega)]; exact g0
     have lr:loadD prog s2 69 (pt s.n 0)=some (.agg (rg r).toArray):=by rw [load_row gr,part_agg a69 z69 (l:=rg r) rfl rfl]
     obtain ⟨z,hz,e57⟩:=c57 (n:=n) (k:=k) hRA (by omega) (fun e he=>by have:=hRlen e he; omega)
     have hlkE:=hR'.lk hG' (by omega) k
     rw [hlkE] at e57
     obtain ⟨l,hjl,hlne,hls,hlb,hcn,hup⟩:=hG'.oneL (n:=k) hr5
     have e107:=c107 (n:=n) (m:=z) (s:=s2) ((lkN E' k).map toRg) r hcn hr5 (by rw [List.length_map]; have:=(lkN_good hG' k).1; omega)
     rw [hjl] at e107
     rw [hup] at hadd2
     have hrel2:=hR'.up (k:=k) (l:=l) (m:=0) hG' (by omega) (by omega) (by omega) hlne hls hlb
     have hG2:=hG'.up (k:=k) (l:=l) (by omega) (by omega) hlne hls hlb
     have e57:=oneS e57
     have e107:=oneS e107
     have hq2:q<s2.n:=by have:=hBu.1; omega
     have al:allocD prog s2 171=some (pt s2.n 0,newD s2 (.row [U 0,fzV 2 #[]])):=alloc_at zr171
     have st:storeD prog (newD s2 (.row [U 0,fzV 2 #[]])) 171 (pt s2.n 0) (.agg (enE (k,l,0)).toArray)=some (newD s2 (.row (enE (k,l,0)))):=st_n0 s2 z171 rfl rfl rfl
     have ge:HP.get (newD s2 (.row (enE (k,l,0)))).h s2.n=some (.row (enE (k,l,0))):=get_n0 s2 _
     have lk0:loadD prog (newD s2 (.row (enE (k,l,0)))) 70 (pt s2.n 0)=some (U (k:Int)):=ldat a70 ge rfl
     have hRA2:RefAt (newD s2 (.row (enE (k,l,0)))) q R':=hRA.but (get_old (by omega))
     obtain ⟨s3,e53,hBu3,mm3,hg3⟩:=c53 (n:=n) (k:=k) hRA2 (by rw [newD_n]; omega) (by omega)
     have hn3:=hBu3.1
     rw [newD_n] at hn3
     have ge3:HP.get s3.h s2.n=some (.row (enE (k,l,0))):=by rw [hBu3.2 _ (by rw [newD_n]; omega) (by omega)]; exact ge
     have lk3:loadD prog s3 70 (pt s2.n 0)=some (U (k:Int)):=ldat a70 ge3 rfl
     have hdl:(dropE R' k).length≤R'.length:=List.length_filter_le _ _
     have hbu:buildD prog 171 [(0,U (k:Int)),(1,sl rg 0 (l.map toRg))]=some (.agg (enE (k,l,0)).toArray):=b171 _ _ _
     have ld69':∀ s:SH,loadD prog s 70 (fpV (u6 (k:Int)).toArray 0)=some (U (k:Int)):=fun s=>ldu6 s _
     simp only [f51_l1,oO,bindS,many1,jnE,boolS,gdB,fst',snd',hl67,bop_lss,lt,decide_true,condT,ix,ld69',e57,lr,e107,hbu,al,st,eqO_s,Bool.and_true,fld171_0,lk0,e53]
     refine f51_pos hg3 (by omega) lk3 ?_
     obtain ⟨t1,t2⟩:=tw_take (dropE R' k) fun e=>decide (e.1<k)
     have htl:((dropE R' k).takeWhile fun e=>decide (e.1<k)).length≤(dropE R' k).length:=(List.takeWhile_sublist _).length_le
     unfold insE at hrel2
     rw [← t1,← t2] at hrel2
     generalize ((dropE R' k).takeWhile fun e=>decide (e.1<k)).length=j at *
     generalize dropE R' k=D at *
     have sc1:slcD prog s3 91 (sl enE mm3 D) none (some (I (j:Int))) none=some (sl enE (bif Nat.beq mm3 2 then 2 else 0) (D.take j)):=slc_sl u91 z171 enE_len htl
     obtain ⟨v4,s4,e4,G4,S4,_⟩:=gapp91 (lo:=s3.n) (s:=s3) (m2:=bif Nat.beq mm3 2 then 2 else 0) (xs:=[]) (ys:=D.take j) (.inl ⟨rfl,.inr rfl⟩) (Nat.le_refl _) (by rw [List.length_take]; simp only [List.length_nil]; omega)
     have ge4:HP.get s4.h s2.n=some (.row (enE (k,l,0))):=by rw [S4.2 _ (by omega)]; exact ge3
     have hg4:HP.get s4.h q=some (.row [sl enE mm3 D]):=by rw [S4.2 _ (by omega)]; exact hg3
     have le4:∀ s:SH,HP.get s.h s2.n=some (.row (enE (k,l,0)))→loadD prog s 171 (pt s2.n 0)=some (.agg (enE (k,l,0)).toArray):=fun s h=>by rw [load_row h,part_agg a171 z171 (l:=enE (k,l,0)) rfl rfl]
     obtain ⟨v5,s5,e5,G5,S5,_⟩:=gapp91 (m2:=1) (ys:=[((k,l,0):EL)]) G4 S4.1 (by simp only [List.nil_append,List.length_take,List.length_singleton]; omega)
     have ge5:HP.get s5.h s2.n=some (.row (enE (k,l,0))):=by rw [S5.2 _ (by omega)]; exact ge4
     have hg5:HP.get s5.h q=some (.row [sl enE mm3 D]):=by rw [S5.2 _ (by omega)]; exact hg4
     obtain ⟨m6,sc2⟩:=slc_from (P:=prog) (s:=s5) (t:=91) (m:=mm3) (k:=.i64) (xs:=D) u91 z171 enE_len htl
     obtain ⟨v6,s6,e6,G6,S6,_⟩:=gapp91 (m2:=m6) (ys:=D.drop j) G5 (Nat.le_trans S4.1 S5.1) (by simp only [List.nil_append,List.length_append,List.length_take,List.length_singleton,List.length_drop]; omega)
     have hg6:HP.get s6.h q=some (.row [sl enE mm3 D]):=by rw [S6.2 _ (by omega)]; exact hg5
     obtain ⟨m7,rfl⟩:=formE G6
     simp only [oO,bindS,many1,jnE,boolS,gdB,fst',snd',beq_yes,condT,bs91_0,nilq,fld93_0,ld91 hg3,sc1,e4,le4 s3 ge3,le4 s4 ge4,bs91,e5,ld91 hg4,ld91 hg5,sc2,e6,st91 hg6,eqO_s,Bool.and_true,bop_add,w]
     refine hnx (_,_) _ ⟨D.take j++(k,l,0)::D.drop j,_,_,rfl,hadd2,hG2.1,by have:=hG2.2; omega,hrel2,⟨m7,by rw [get_put_same]; simp⟩,?_⟩
     refine ⟨by have:=hBu.1; have:=S4.1; have:=S5.1; have:=S6.1; rw [putD_n]; omega,fun t ht hne=>?_⟩
     have htn:=hBu.1
     rw [get_put_other hne,S6.2 _ (by omega),S5.2 _ (by omega),S4.2 _ (by omega),hBu3.2 _ (by rw [newD_n]; omega) hne,get_old (by omega)]
     exact hBu.2 t ht hne
   · rintro ⟨x1,x2⟩ s2 ⟨R',E',c',e1,hadd,hG',hEl,hR',hRA,hBu⟩ nx
     simp only at e1
     subst e1
     have lt:¬ (ids.length:Int)<(ids.length:Int):=by omega
     rw [List.take_length] at hadd
     simp only [f51_l1,oO,bindS,many1,jnE,boolS,gdB,fst',snd',hl67,bop_lss,lt,decide_false,condF,beq_yes,condT]
     exact One.ret ⟨R',E',c',rfl,hB0.trans hBu,hRA,hR',hadd,hG',hEl⟩
end Go.Proofs.Ytmhmbmogodofeaa.S
