import Derived.Test.YtmhmbmogodofeaaQP
import Derived.Test.YtmhmbmogodofeaaS219
import Derived.Test.YtmhmbmogodofeaaQZ
import Derived.Test.YtmhmbmogodofeaaSQ
import Derived.Test.YtmhmbmogodofeaaS211
set_option linter.unusedVariables false
set_option linter.unusedSimpArgs false
set_option maxRecDepth 100000
namespace Go.Proofs.Ytmhmbmogodofeaa.S
open Go.FS Go.RowKit
open Go.Proofs.Try (prog)
attribute [local congr] bind_cg cond_cg gd_cg
open Go.FS.Q
def Srt (a b:Nat) (m:List Nat):Prop:=∀ i j,a≤i→i≤j→j<b→gt m i≤gt m j
def Lo (a b:Nat) (m:List Nat):Prop:=a=0∨Ge a b m (gt m (a-1))
theorem Lo.perm {a b c d:Nat} {l m:List Nat} (h:Lo a b l) (p:PermIn c d l m) (hc:a≤c) (hd:d≤b) (hb:b≤l.length) (hab:a≤b):Lo a b m:=by
 rcases h with h | h
 · exact .inl h
 · by_cases e:a=0
   · exact .inl e
   · refine .inr ?_
     rw [p.same (k:=a-1) (.inl (by omega))]
     exact Ge.perm h (p.wide hc hd) hb
section
variable {G:Nat→Option (Array Value)} {A:Ann (FG G)}
theorem sw3 {s:St (FG G)} {id i j:Nat} {m:List Nat} (hi:i<m.length) (hj:j<m.length):storeD prog (putD s id (.row (rowU m))) 70 (pt id i) (U (gt m j:Int))=some (putD s id (.row (rowU (m.set i m[j]))))∧storeD prog (putD s id (.row (rowU (m.set i m[j])))) 70 (pt id j) (U (gt m i:Int))=some (putD s id (.row (rowU (swapL m i j hi hj)))):=by
 rw [← gt_of hi,← gt_of hj]; exact sw2 hi hj
theorem rise (h:SA A) {N n id c a b i L:Nat} {s:St (FG G)} {m:List Nat} {e:Value} {kx:Nat→Value→St (FG G)→Option (List (Value×St (FG G)))} {kr:Value→St (FG G)→Option (List (Value×St (FG G)))} {Q:Value→St (FG G)→Prop} (g:(FG G).get s.h id=some (.row (rowU m))) (hL:m.length=L) (hb:b≤L) (hl:L<2^40) (hai:a+1≤i) (hib:i≤b) (hS:Srt a i m)
 (hk:∀ i':Nat,i≤i'→i'≤b→(i'=b∨gt m i'<gt m (i'-1))→Srt a i' m→One (kx 2 (I (i':Int)) s) Q) :
 One (iterS (f219_l1 (dOps (H:=FG G) prog) (callD prog A (n+2)) N (sU id L c) (I (b:Int)) e) kx kr (2^64) (I (i:Int)) s) Q:=by
 refine list_one (List.replicate (b-i) ()) (fun t (x:Value) (s':St (FG G))=>x=I ((i+t:Nat):Int)∧s'=s∧Srt a (i+t) m) ?_ ?_ ⟨rfl,rfl,hS⟩ (by rw [List.length_replicate]; omega)
 · rintro t ht x s' ⟨rfl,rfl,hS⟩ nx hnx
   rw [List.length_replicate] at ht
   have lt:((i+t:Nat):Int)<(b:Int):=by omega
   have w:IntKind.i64.wrap (((i+t:Nat):Int)+1)=((i+(t+1):Nat):Int):=by rw [wrap_i64 (by omega) (by omega)]; omega
   have w2:IntKind.i64.wrap (((i+t:Nat):Int)-1)=((i+t-1:Nat):Int):=by rw [wrap_i64 (by omega) (by omega)]; omega
   have ix1:indexAddrD prog 67 (sU id L c) (I ((i+t:Nat):Int))=some (pt id (i+t)):=ixU (by omega)
   have ix2:indexAddrD prog 67 (sU id L c) (I ((i+t-1:Nat):Int))=some (pt id (i+t-1)):=ixU (by omega)
   have l1:=ldg g (i:=i+t) (by omega)
   have l2:=ldg g (i:=i+t-1) (by omega)
   have e:=oneS (c220 h (n:=n) (s:=s') (gt m (i+t)) (gt m (i+t-1)))
   by_cases hc:gt m (i+t)<gt m (i+t-1)
   · rw [decide_eq_true hc] at e
     simp only [f219_l1,oO,bindS,many1,jnE,boolS,gdB,fst',snd',bop_lss,lt,decide_true,condT,ix1,ix2,l1,l2,b_sub,w2,e,uop_not,Bool.not_true,condF]
     exact hk _ (by omega) (by omega) (.inr hc) hS
   · rw [decide_eq_false hc] at e
     simp only [f219_l1,f219_j1,oO,bindS,many1,jnE,boolS,gdB,fst',snd',bop_lss,lt,decide_true,condT,ix1,ix2,l1,l2,b_sub,w2,e,uop_not,Bool.not_false,condT,bop_add,w]
     refine hnx _ _ ⟨rfl,rfl,fun p q h1 h2 h3=>?_⟩
     by_cases eq:q=i+t
     · subst eq
       by_cases ep:p=i+t
       · subst ep; exact Nat.le_refl _
       · exact Nat.le_trans (hS p (i+t-1) h1 (by omega) (by omega)) (by omega)
     · exact hS p q h1 h2 (by omega)
 · rintro x s' ⟨rfl,rfl,hS⟩ nx
   rw [List.length_replicate] at hS ⊢
   have lt:¬ ((i+(b-i):Nat):Int)<(b:Int):=by omega
   simp only [f219_l1,oO,bindS,many1,jnE,boolS,gdB,fst',snd',bop_lss,lt,decide_false,condF]
   exact hk _ (by omega) (by omega) (.inl (by omega)) hS
theorem left (h:SA A) {N n id c a b i L:Nat} {s:St (FG G)} {m:List Nat} {kx:Nat→Value→St (FG G)→Option (List (Value×St (FG G)))} {kr:Value→St (FG G)→Option (List (Value×St (FG G)))} {Q:Value→St (FG G)→Prop} (hL:m.length=L) (hb:b≤L) (hl:L<2^40) (hai:a≤i) (hib:i<b) (hS:Srt a i m) (hLo:Lo a b m)
 (hk:∀ (j:Value) (m':List Nat),PermIn a (i+1) m m'→Srt a (i+1) m'→One (kx 4 j (putD s id (.row (rowU m')))) Q) :
 One (iterS (f219_l2 (dOps (H:=FG G) prog) (callD prog A (n+2)) N (sU id L c)) kx kr (2^64) (I (i:Int)) (putD s id (.row (rowU m)))) Q:=by
 refine list_one (List.replicate (i-a) ()) (fun t (x:Value) (s':St (FG G))=>x=I ((i-t:Nat):Int)∧∃ m',PermIn a (i+1) m m'∧Hole a (i-t) i m'∧s'=putD s id (.row (rowU m'))) ?_ ?_ ⟨rfl,m,.refl _ _ _,hole_start ((sortIn_iff (by omega)).2 hS),rfl⟩ (by rw [List.length_replicate]; omega)
 · rintro t ht x s' ⟨rfl,m',hP,hH,rfl⟩ nx hnx
   rw [List.length_replicate] at ht
   have hml:=hP.len
   have ge:((i-t:Nat):Int)≥1:=by omega
   have w:IntKind.i64.wrap (((i-t:Nat):Int)-1)=((i-t-1:Nat):Int):=by rw [wrap_i64 (by omega) (by omega)]; omega
   have b1:i-t<m'.length:=by omega
   have b2:i-t-1<m'.length:=by omega
   have ix1:indexAddrD prog 67 (sU id L c) (I ((i-t:Nat):Int))=some (pt id (i-t)):=ixU (by omega)
   have ix2:indexAddrD prog 67 (sU id L c) (I ((i-t-1:Nat):Int))=some (pt id (i-t-1)):=ixU (by omega)
   have gm:(FG G).get (putD s id (.row (rowU m'))).h id=some (.row (rowU m')):=get_put_same _
   have e:=oneS (c220 h (n:=n) (s:=putD s id (.row (rowU m'))) (gt m' (i-t)) (gt m' (i-t-1)))
   by_cases hc:gt m' (i-t)<gt m' (i-t-1)
   · rw [decide_eq_true hc] at e
     obtain ⟨t1,t2⟩:=sw3 (s:=s) (id:=id) b1 b2
     simp only [f219_l2,f219_j5,f219_j6,f219_j7,oO,bindS,many1,jnE,boolS,gdB,fst',snd',bop_geq,ge,decide_true,condT,ix1,ix2,ldg gm b1,ldg gm b2,b_sub,w,e,uop_not,Bool.not_true,condF,t1,t2]
     refine hnx _ _ ⟨by rw [Nat.sub_add_eq],_,hP.trans (PermIn.swap m' b1 b2 (by omega) (by omega) (by omega) (by omega)),?_,rfl⟩
     rw [Nat.sub_add_eq]
     exact hole_swap hH (by omega) (by omega) (by omega) b1 b2 (by rw [gt_of b1,gt_of b2]; exact hc)
   · rw [decide_eq_false hc] at e
     simp only [f219_l2,f219_j5,oO,bindS,many1,jnE,boolS,gdB,fst',snd',bop_geq,ge,decide_true,condT,ix1,ix2,ldg gm b1,ldg gm b2,b_sub,w,e,uop_not,Bool.not_false]
     exact hk _ m' hP ((sortIn_iff (by omega)).1 (hole_end hH b1 (.inr ⟨b2,by rw [gt_of b1,gt_of b2]; omega⟩)))
 · rintro x s' ⟨rfl,m',hP,hH,rfl⟩ nx
   rw [List.length_replicate] at hH ⊢
   have hml:=hP.len
   have hja:i-(i-a)=a:=by omega
   rw [hja] at hH ⊢
   have hfin:=(sortIn_iff (by omega)).1 (hole_end hH (by omega) (.inl (Nat.le_refl _)))
   by_cases ea:a=0
   · have ge:¬ ((a:Nat):Int)≥1:=by omega
     simp only [f219_l2,oO,bindS,many1,jnE,boolS,gdB,fst',snd',bop_geq,ge,decide_false,condF]
     exact hk _ m' hP hfin
   · have ge:((a:Nat):Int)≥1:=by omega
     have w:IntKind.i64.wrap (((a:Nat):Int)-1)=((a-1:Nat):Int):=by rw [wrap_i64 (by omega) (by omega)]; omega
     have b1:a<m'.length:=by omega
     have b2:a-1<m'.length:=by omega
     have ix1:indexAddrD prog 67 (sU id L c) (I ((a:Nat):Int))=some (pt id a):=ixU (by omega)
     have ix2:indexAddrD prog 67 (sU id L c) (I ((a-1:Nat):Int))=some (pt id (a-1)):=ixU (by omega)
     have gm:(FG G).get (putD s id (.row (rowU m'))).h id=some (.row (rowU m')):=get_put_same _
     have e:=oneS (c220 h (n:=n) (s:=putD s id (.row (rowU m'))) (gt m' a) (gt m' (a-1)))
     have hL2:Lo a b m':=hLo.perm (hP.wide (Nat.le_refl _) (show i+1≤b by omega)) (Nat.le_refl _) (Nat.le_refl _) (by omega) (by omega)
     have hc:¬ gt m' a<gt m' (a-1):=by
      rcases hL2 with h0 | h0
      · omega
      · have:=h0 a (Nat.le_refl _) (by omega); omega
     rw [decide_eq_false hc] at e
     simp only [f219_l2,f219_j5,oO,bindS,many1,jnE,boolS,gdB,fst',snd',bop_geq,ge,decide_true,condT,ix1,ix2,ldg gm b1,ldg gm b2,b_sub,w,e,uop_not,Bool.not_false]
     exact hk _ m' hP hfin
theorem right (h:SA A) {N n id c b i L:Nat} {s:St (FG G)} {m:List Nat} {kx:Nat→Value→St (FG G)→Option (List (Value×St (FG G)))} {kr:Value→St (FG G)→Option (List (Value×St (FG G)))} {Q:Value→St (FG G)→Prop} (hL:m.length=L) (hb:b≤L) (hl:L<2^40) (hib:i+1≤b)
 (hk:∀ (j:Value) (m':List Nat),PermIn i b m m'→One (kx 6 j (putD s id (.row (rowU m')))) Q) :
 One (iterS (f219_l3 (dOps (H:=FG G) prog) (callD prog A (n+2)) N (sU id L c) (I (b:Int))) kx kr (2^64) (I ((i+1:Nat):Int)) (putD s id (.row (rowU m)))) Q:=by
 refine list_one (List.replicate (b-(i+1)) ()) (fun t (x:Value) (s':St (FG G))=>x=I ((i+1+t:Nat):Int)∧∃ m',PermIn i b m m'∧s'=putD s id (.row (rowU m'))) ?_ ?_ ⟨rfl,m,.refl _ _ _,rfl⟩ (by rw [List.length_replicate]; omega)
 · rintro t ht x s' ⟨rfl,m',hP,rfl⟩ nx hnx
   rw [List.length_replicate] at ht
   have hml:=hP.len
   have lt:((i+1+t:Nat):Int)<(b:Int):=by omega
   have w:IntKind.i64.wrap (((i+1+t:Nat):Int)-1)=((i+t:Nat):Int):=by rw [wrap_i64 (by omega) (by omega)]; omega
   have w1:IntKind.i64.wrap (((i+1+t:Nat):Int)+1)=((i+1+(t+1):Nat):Int):=by rw [wrap_i64 (by omega) (by omega)]; omega
   have b1:i+1+t<m'.length:=by omega
   have b2:i+t<m'.length:=by omega
   have ix1:indexAddrD prog 67 (sU id L c) (I ((i+1+t:Nat):Int))=some (pt id (i+1+t)):=ixU (by omega)
   have ix2:indexAddrD prog 67 (sU id L c) (I ((i+t:Nat):Int))=some (pt id (i+t)):=ixU (by omega)
   have gm:(FG G).get (putD s id (.row (rowU m'))).h id=some (.row (rowU m')):=get_put_same _
   have e:=oneS (c220 h (n:=n) (s:=putD s id (.row (rowU m'))) (gt m' (i+1+t)) (gt m' (i+t)))
   by_cases hc:gt m' (i+1+t)<gt m' (i+t)
   · rw [decide_eq_true hc] at e
     obtain ⟨t1,t2⟩:=sw3 (s:=s) (id:=id) b1 b2
     simp only [f219_l3,f219_j9,f219_j10,f219_j11,oO,bindS,many1,jnE,boolS,gdB,fst',snd',bop_lss,lt,decide_true,condT,ix1,ix2,ldg gm b1,ldg gm b2,b_sub,w,e,uop_not,Bool.not_true,condF,t1,t2,bop_add,w1]
     exact hnx _ _ ⟨rfl,_,hP.trans (PermIn.swap m' b1 b2 (by omega) (by omega) (by omega) (by omega)),rfl⟩
   · rw [decide_eq_false hc] at e
     simp only [f219_l3,f219_j9,oO,bindS,many1,jnE,boolS,gdB,fst',snd',bop_lss,lt,decide_true,condT,ix1,ix2,ldg gm b1,ldg gm b2,b_sub,w,e,uop_not,Bool.not_false]
     exact hk _ m' hP
 · rintro x s' ⟨rfl,m',hP,rfl⟩ nx
   rw [List.length_replicate]
   have lt:¬ ((i+1+(b-(i+1)):Nat):Int)<(b:Int):=by omega
   simp only [f219_l3,oO,bindS,many1,jnE,boolS,gdB,fst',snd',bop_lss,lt,decide_false,condF]
   exact hk _ m' hP
theorem c219 (h:SA A) (hN:A.N=2^64) {n id c a b:Nat} {s:St (FG G)} {l:List Nat} (g:(FG G).get s.h id=some (.row (rowU l))) (hab:a<b) (hb:b≤l.length) (hl:l.length<2^40) (hLo:Lo a b l) :
 ∃ m,∃ bl:Bool,PermIn a b l m∧(bl=true→Srt a b m)∧callD prog A (n+3) (.fn 219) [sU id l.length c,I (a:Int),I (b:Int)] s=some [(.bool bl,putD s id (.row (rowU m)))]:=by
 rw [call_fn (fn:=Try.f219) (h.i _ (by decide) (by decide)) (h.c _ (by decide) (by decide)) (by kernel_rfl),h.r _ (by decide) (by decide)]
 suffices hh:One (bodyD prog false (callD prog A (n+2)) A.N 219 Try.f219 [sU id l.length c,I (a:Int),I (b:Int)] s) (fun v s'=>∃ m,∃ bl:Bool,PermIn a b l m∧(bl=true→Srt a b m)∧v=.bool bl∧s'=putD s id (.row (rowU m))) by
  obtain ⟨v,s',e,m,bl,h1,h2,rfl,rfl⟩:=hh
  exact ⟨m,bl,h1,h2,e⟩
 rw [f219_r,hN]
 have w1:IntKind.i64.wrap ((a:Int)+1)=((a+1:Nat):Int):=by rw [wrap_i64 (by omega) (by omega)]; omega
 have w2:IntKind.i64.wrap ((b:Int)-(a:Int))=((b-a:Nat):Int):=by rw [wrap_i64 (by omega) (by omega)]; omega
 simp only [f219,oO,bindS,many1,jnE,boolS,gdB,fst',snd',bop_add,w1]
 refine list_one (List.replicate 5 ()) (fun t (x:Value×Value×Value×Value×Value) (s':St (FG G))=>∃ i m,x.2.1=I ((i:Nat):Int)∧x.2.2.1=I ((t:Nat):Int)∧a+1≤i∧i≤b∧PermIn a b l m∧Srt a i m∧s'=putD s id (.row (rowU m))) ?_ ?_ ⟨a+1,l,rfl,rfl,Nat.le_refl _,by omega,.refl _ _ _,fun p q h1 h2 h3=>by rw [show p=q from by omega]; exact Nat.le_refl _,(put_same g).symm⟩ (by decide)
 · rintro t ht ⟨x0,x1,x2,x3,x4⟩ s' ⟨i,m,e1,e2,hai,hib,hP,hS,rfl⟩ nx hnx
   simp only at e1 e2
   subst e1 e2
   rw [List.length_replicate] at ht
   have hml:=hP.len
   have lt5:((t:Nat):Int)<5:=by omega
   have wt:IntKind.i64.wrap (((t:Nat):Int)+1)=((t+1:Nat):Int):=by rw [wrap_i64 (by omega) (by omega)]; omega
   have gm:(FG G).get (putD s id (.row (rowU m))).h id=some (.row (rowU m)):=get_put_same _
   simp only [f219_l0,f219_j0,oO,bindS,many1,jnE,boolS,gdB,fst',snd',bop_lss,lt5,decide_true,condT]
   refine rise h gm hml hb hl hai hib hS fun i' q1 q2 q3 q4=>?_
   simp only [beq_yes,condT,f219_j2,oO,bindS,many1,jnE,boolS,gdB,fst',snd',bop_eql]
   by_cases ib:(i':Int)=(b:Int)
   · rw [decide_eq_true ib]
     simp only [oO,bindS,many1,jnE,boolS,gdB,fst',snd',condT]
     have:i'=b:=by omega
     subst this
     exact One.ret ⟨m,true,hP,fun _=>q4,rfl,rfl⟩
   · rw [decide_eq_false ib]
     have hlt:gt m i'<gt m (i'-1):=by rcases q3 with e | e; exact absurd (by omega) ib; exact e
     simp only [oO,bindS,many1,jnE,boolS,gdB,fst',snd',condF,f219_j3,b_sub,w2,bop_lss]
     by_cases h50:((b-a:Nat):Int)<50
     · rw [decide_eq_true h50]
       simp only [oO,bindS,many1,jnE,boolS,gdB,fst',snd',condT]
       exact One.ret ⟨m,false,hP,fun e=>(by cases e),rfl,rfl⟩
     · rw [decide_eq_false h50]
       have b1:i'<m.length:=by omega
       have b2:i'-1<m.length:=by omega
       have w3:IntKind.i64.wrap ((i':Int)-1)=((i'-1:Nat):Int):=by rw [wrap_i64 (by omega) (by omega)]; omega
       have w4:IntKind.i64.wrap ((i':Int)-(a:Int))=((i'-a:Nat):Int):=by rw [wrap_i64 (by omega) (by omega)]; omega
       have ix1:indexAddrD prog 67 (sU id l.length c) (I ((i':Nat):Int))=some (pt id i'):=ixU (by omega)
       have ix2:indexAddrD prog 67 (sU id l.length c) (I ((i'-1:Nat):Int))=some (pt id (i'-1)):=ixU (by omega)
       obtain ⟨t1,t2⟩:=sw3 (s:=s) (id:=id) b1 b2
       have hP1:PermIn a b m (swapL m i' (i'-1) b1 b2):=PermIn.swap m b1 b2 (by omega) (by omega) (by omega) (by omega)
       have hS1:Srt a (i'-1) (swapL m i' (i'-1) b1 b2):=fun p q h1 h2 h3=>by
        rw [swapL_gt,swapL_gt,if_neg (by omega),if_neg (by omega),if_neg (by omega),if_neg (by omega)]
        exact q4 p q h1 h2 (by omega)
       have hL1:Lo a b (swapL m i' (i'-1) b1 b2):=hLo.perm (hP.trans hP1) (Nat.le_refl _) (Nat.le_refl _) hb (by omega)
       have tail:∀ (m2:List Nat) (x:Value),PermIn a b l m2→Srt a i' m2→One (f219_j8 (dOps (H:=FG G) prog) (callD prog A (n+2)) (2^64) (sU id l.length c) (I (b:Int)) x0 (I (i':Int)) (I ((t:Nat):Int)) x x4 nx (fun i175 x176 s177=>bif Nat.beq i175 0 then f219_j13 (dOps (H:=FG G) prog) (callD prog A (n+2)) (2^64) s177 else none) (fun x178 s179=>some [(x178.1,s179)]) (putD s id (.row (rowU m2)))) (fun v s'=>∃ m,∃ bl:Bool,PermIn a b l m∧(bl=true→Srt a b m)∧v=.bool bl∧s'=putD s id (.row (rowU m))):=by
        intro m2 x hP2 hS2
        have hml2:=hP2.len
        have w5:IntKind.i64.wrap ((b:Int)-(i':Int))=((b-i':Nat):Int):=by rw [wrap_i64 (by omega) (by omega)]; omega
        have w6:IntKind.i64.wrap ((i':Int)+1)=((i'+1:Nat):Int):=by rw [wrap_i64 (by omega) (by omega)]; omega
        simp only [f219_j8,f219_j12,oO,bindS,many1,jnE,boolS,gdB,fst',snd',b_sub,w5,bop_geq,bop_add,w6,wt]
        by_cases h2:((b-i':Nat):Int)≥2
        · rw [decide_eq_true h2]
          simp only [condT]
          refine right h hml2 hb hl (by omega) fun j m3 hP3=>?_
          simp only [beq_yes,condT]
          exact hnx _ _ ⟨i',m3,rfl,rfl,by omega,by omega,hP2.trans (hP3.wide (by omega) (Nat.le_refl _)),fun p q h1 h2 h3=>by rw [hP3.same (.inl (by omega)),hP3.same (.inl (by omega))]; exact hS2 p q h1 h2 h3,rfl⟩
        · rw [decide_eq_false h2]
          simp only [condF]
          exact hnx _ _ ⟨i',m2,rfl,rfl,by omega,by omega,hP2,hS2,rfl⟩
       simp only [oO,bindS,many1,jnE,boolS,gdB,fst',snd',condF,f219_j4,b_sub,w3,ix1,ix2,ldg gm b1,ldg gm b2,t1,t2,w4,bop_geq]
       by_cases h2:((i'-a:Nat):Int)≥2
       · rw [decide_eq_true h2]
         simp only [condT]
         refine left h (a:=a) (b:=b) (i:=i'-1) (by rw [swapL_len]; exact hml) hb hl (by omega) (by omega) hS1 hL1 fun j m2 hP2 hS2=>?_
         simp only [beq_yes,condT]
         rw [show i'-1+1=i' from by omega] at hP2 hS2
         exact tail m2 j ((hP.trans hP1).trans (hP2.wide (Nat.le_refl _) (by omega))) hS2
       · rw [decide_eq_false h2]
         simp only [condF]
         exact tail _ x3 (hP.trans hP1) fun p q h1 h2 h3=>by rw [show p=q from by omega]; exact Nat.le_refl _
 · rintro ⟨x0,x1,x2,x3,x4⟩ s' ⟨i,m,e1,e2,hai,hib,hP,hS,rfl⟩ nx
   simp only at e1 e2
   subst e1 e2
   rw [List.length_replicate]
   have lt5:¬ ((5:Nat):Int)<5:=by omega
   simp only [f219_l0,f219_j13,oO,bindS,many1,jnE,boolS,gdB,fst',snd',bop_lss,lt5,decide_false,condF,beq_yes,condT]
   exact One.ret ⟨m,false,hP,fun e=>(by cases e),rfl,rfl⟩
end
end Go.Proofs.Ytmhmbmogodofeaa.S
namespace Go.Proofs.Ytmhmbmogodofeaa.S
open Go.FS Go.RowKit
open Go.Proofs.Try (prog)
attribute [local congr] bind_cg cond_cg gd_cg
open Go.FS.Q
section
variable {G:Nat→Option (Array Value)} {A:Ann (FG G)}
def len8T:Array UInt8:=#[0,1,2,2,3,3,3,3,4,4,4,4,4,4,4,4,5,5,5,5,5,5,5,5,5,5,5,5,5,5,5,5,6,6,6,6,6,6,6,6,6,6,6,6,6,6,6,6,6,6,6,6,6,6,6,6,6,6,6,6,6,6,6,6,7,7,7,7,7,7,7,7,7,7,7,7,7,7,7,7,7,7,7,7,7,7,7,7,7,7,7,7,7,7,7,7,7,7,7,7,7,7,7,7,7,7,7,7,7,7,7,7,7,7,7,7,7,7,7,7,7,7,7,7,7,7,7,7,8,8,8,8,8,8,8,8,8,8,8,8,8,8,8,8,8,8,8,8,8,8,8,8,8,8,8,8,8,8,8,8,8,8,8,8,8,8,8,8,8,8,8,8,8,8,8,8,8,8,8,8,8,8,8,8,8,8,8,8,8,8,8,8,8,8,8,8,8,8,8,8,8,8,8,8,8,8,8,8,8,8,8,8,8,8,8,8,8,8,8,8,8,8,8,8,8,8,8,8,8,8,8,8,8,8,8,8,8,8,8,8,8,8,8,8,8,8,8,8,8,8,8,8,8,8,8,8]
theorem len8_all:(List.range 256).all (fun y=>len8T.toList[y]? == some (UInt8.ofNat (len8 y)))=true:=by decide +kernel
theorem len8_le {y:Nat} (h:y<256):len8 y≤8:=by
 unfold len8
 split
 · omega
 · rename_i h0
   have:=(Nat.log2_lt h0).2 (show y<2^8 by omega)
   omega
theorem len8_ix {y:Nat} (h:y<256):indexD prog 9 (.string { data:=len8T }) (.int .u8 (y:Int))=some (.int .u8 (len8 y:Int)):=by
 have h1:=List.all_eq_true.1 len8_all y (List.mem_range.2 h)
 have h1:len8T.toList[y]?=some (UInt8.ofNat (len8 y)):=by simpa using h1
 have h0:decide ((0:Int)≤(y:Int))=true:=decide_eq_true (by omega)
 have h2:=len8_le h
 unfold indexD
 rw [u9]
 simp only [h0,condT,Int.toNat_natCast,h1,Option.map_some]
 rw [toNat_ofNat (by omega)]
theorem len8_dec {y:Nat} (h:256≤y):len8 y=len8 (y / 2^8)+8:=by
 have:=log2_div (x:=y) (k:=8) h
 have h1:y / 2^8≠0:=by have:=Nat.div_pos (show 2^8≤y from h) (by decide); omega
 unfold len8
 rw [if_neg (by omega),if_neg h1]; omega
theorem len8_dec2 {y:Nat} (h:65536≤y):len8 y=len8 (y / 2^16)+16:=by
 have:=log2_div (x:=y) (k:=16) h
 have h1:y / 2^16≠0:=by have:=Nat.div_pos (show 2^16≤y from h) (by decide); omega
 unfold len8
 rw [if_neg (by omega),if_neg h1]; omega
theorem len8_dec3 {y:Nat} (h:4294967296≤y):len8 y=len8 (y / 2^32)+32:=by
 have:=log2_div (x:=y) (k:=32) h
 have h1:y / 2^32≠0:=by have:=Nat.div_pos (show 2^32≤y from h) (by decide); omega
 unfold len8
 rw [if_neg (by omega),if_neg h1]; omega
theorem shr64' {a:Nat} (k:Nat) (hk:k≤64):bopD prog .shr 70 (.int .u64 (a:Int)) (.int .u64 (k:Int))=some (.int .u64 ((a / 2^k:Nat):Int)):=by
 rw [bop_int]
 simp only [intS,IntKind.bits]
 rw [if_neg (by omega),Int.toNat_natCast,Nat.min_eq_left hk]
 have e:((2:Int)^k)=((2^k:Nat):Int):=by simp
 rw [e,← Int.ofNat_fdiv]
theorem wrap8n {x:Nat} (h:x<256):IntKind.u8.wrap (x:Int)=(x:Int):=by
 rw [wrap_us rfl]
 show ((x:Int) % 256)=_
 omega
noncomputable abbrev B1 (v : Value) (s : (St (FG G))) (y a : Value) : Option (List (Value × (St (FG G)))) :=
       (bopD prog .geq 70 y (.int .u64 256)).bind fun v48 =>
       jn (fun (j872_0:Value) (j872_2:Value) =>
       (convertD prog false s 70 5 j872_0).bind fun p56 =>
       (indexD prog 9 v p56.1).bind fun v57 =>
       (convertD prog false p56.2 5 3 v57).bind fun p58 =>
       (bopD prog .add 3 j872_2 p58.1).bind fun v59 =>
       some [(v59,p58.2)]) fun k872 =>
       (boolD v48).bind fun b49=>cond b49 (
       (bopD prog .shr 70 y (.int .u64 8)).bind fun v50 =>
       (bopD prog .add 3 a (.int .i64 8)).bind fun v51 =>
       k872 v50 v51) (
       k872 y a)
noncomputable abbrev B2 (v : Value) (s : (St (FG G))) (y a : Value) : Option (List (Value × (St (FG G)))) :=
       (bopD prog .geq 70 y (.int .u64 65536)).bind fun v32 =>
       jn (fun (j862_0:Value) (j862_2:Value)=>B1 v s j862_0 j862_2) fun k862 =>
       (boolD v32).bind fun b33=>cond b33 (
       (bopD prog .shr 70 y (.int .u64 16)).bind fun v34 =>
       (bopD prog .add 3 a (.int .i64 16)).bind fun v35 =>
       k862 v34 v35) (
       k862 y a)
noncomputable abbrev B3 (v : Value) (s : (St (FG G))) (a0 : Value) : Option (List (Value × (St (FG G)))) :=
       (bopD prog .geq 70 a0 (.int .u64 4294967296)).bind fun v1 =>
       jn (fun (j842_0:Value) (j842_2:Value)=>B2 v s j842_0 j842_2) fun k842 =>
       (boolD v1).bind fun b2=>cond b2 (
       (bopD prog .shr 70 a0 (.int .u64 32)).bind fun v3 =>
       k842 v3 (.int .i64 32)) (
       k842 a0 (.int .i64 0))
def IxT (v:Value):Prop:=∀ y:Nat,y<256→indexD prog 9 v (.int .u8 (y:Int))=some (.int .u8 (len8 y:Int))
theorem b1_ok {v:Value} (hv:IxT v) (s:(St (FG G))) (y a:Nat) (hy:y<65536) (ha:a≤48):One (B1 v s (U (y:Int)) (I (a:Int))) fun v s'=>v=I ((a+len8 y:Nat):Int)∧s'=s:=by
 by_cases h:256≤y
 · have hg:(y:Int)≥256:=by omega
   have hlt:y / 2^8<256:=by omega
   have e8:bopD prog .shr 70 (U (y:Int)) (.int .u64 8)=some (U ((y / 2^8:Nat):Int)):=shr64' (a:=y) 8 (by decide)
   have ew:IntKind.i64.wrap ((a:Int)+8)=((a+8:Nat):Int):=by rw [wrap_i64 (by omega) (by omega)]; rfl
   have hl:=len8_le hlt
   have e9:IntKind.i64.wrap (len8 (y / 2^8):Int)=(len8 (y / 2^8):Int):=wrap_i64 (by omega) (by omega)
   have key:IntKind.i64.wrap (((a+8:Nat):Int)+(len8 (y / 2^8):Int))=((a+8+len8 (y / 2^8):Nat):Int):=by rw [wrap_i64 (by omega) (by omega)]; omega
   simp only [B1,bop_geq,hg,decide_true,bindS,jnE,boolS,condT,e8,bop_add,ew,conv_int u70 u5,wrap8n hlt,fst',snd',hv _ hlt,conv_int u5 u3,e9,key]
   exact One.ret ⟨by rw [len8_dec h]; congr 2; omega,rfl⟩
 · have hg:¬ (y:Int)≥256:=by omega
   have hlt:y<256:=by omega
   have hl:=len8_le hlt
   have e9:IntKind.i64.wrap (len8 y:Int)=(len8 y:Int):=wrap_i64 (by omega) (by omega)
   have key:IntKind.i64.wrap ((a:Int)+(len8 y:Int))=((a+len8 y:Nat):Int):=by rw [wrap_i64 (by omega) (by omega)]; omega
   simp only [B1,bop_geq,hg,decide_false,bindS,jnE,boolS,condF,conv_int u70 u5,wrap8n hlt,fst',snd',hv _ hlt,conv_int u5 u3,e9,bop_add,key]
   exact One.ret ⟨rfl,rfl⟩
theorem b2_ok {v:Value} (hv:IxT v) (s:(St (FG G))) (y a:Nat) (hy:y<4294967296) (ha:a≤32):One (B2 v s (U (y:Int)) (I (a:Int))) fun v s'=>v=I ((a+len8 y:Nat):Int)∧s'=s:=by
 by_cases h:65536≤y
 · have hg:(y:Int)≥65536:=by omega
   have hlt:y / 2^16<65536:=by omega
   have e8:bopD prog .shr 70 (U (y:Int)) (.int .u64 16)=some (U ((y / 2^16:Nat):Int)):=shr64' (a:=y) 16 (by decide)
   have ew:IntKind.i64.wrap ((a:Int)+16)=((a+16:Nat):Int):=by rw [wrap_i64 (by omega) (by omega)]; rfl
   unfold B2
   rw [bop_geq,decide_eq_true hg,bindS,jnE,boolS,bindS,condT,e8,bindS,bop_add,ew,bindS]
   have:=b1_ok hv s (y / 2^16) (a+16) hlt (by omega)
   rw [show a+16+len8 (y / 2^16)=a+len8 y from by rw [len8_dec2 h]; omega] at this
   exact this
 · have hg:¬ (y:Int)≥65536:=by omega
   unfold B2
   rw [bop_geq,decide_eq_false hg,bindS,jnE,boolS,bindS,condF]
   exact b1_ok hv s y a (by omega) (by omega)
theorem b3_ok {v:Value} (hv:IxT v) (s:(St (FG G))) (x:Nat) (hx:x<2^64):One (B3 v s (U (x:Int))) fun v s'=>v=I (len8 x:Int)∧s'=s:=by
 unfold B3
 by_cases h:4294967296≤x
 · have hg:(x:Int)≥4294967296:=by omega
   have hlt:x / 2^32<4294967296:=by omega
   have e8:bopD prog .shr 70 (U (x:Int)) (.int .u64 32)=some (U ((x / 2^32:Nat):Int)):=shr64' (a:=x) 32 (by decide)
   rw [bop_geq,decide_eq_true hg,bindS,jnE,boolS,bindS,condT,e8,bindS]
   obtain ⟨v,s',e,h1,h2⟩:=b2_ok hv s (x / 2^32) 32 hlt (by omega)
   exact ⟨v,s',e,by rw [h1,len8_dec3 h,Nat.add_comm],h2⟩
 · have hg:¬ (x:Int)≥4294967296:=by omega
   rw [bop_geq,decide_eq_false hg,bindS,jnE,boolS,bindS,condF]
   obtain ⟨v,s',e,h1,h2⟩:=b2_ok hv s x 0 (by omega) (by omega)
   exact ⟨v,s',e,by rw [h1,Nat.zero_add],h2⟩
theorem f173_B (C:OracleJ (FG G)) (n:Nat) (a0:Value) (s:St (FG G)):f173 (dOps prog) C n a0 s=B3 (.string { data:=len8T }) s a0:=rfl
structure SB (A:Ann (FG G)):Prop where
 i:∀ f,f=132∨f=173∨f=203∨f=204→A.i f=none
 c:∀ f,f=132∨f=173∨f=203∨f=204→A.cut f=none
 r:∀ f,f=132∨f=173∨f=203∨f=204→A.row f=false
theorem c173 (h:SB A) {n:Nat} {s:St (FG G)} (x:Nat) (hx:x<2^64):callD prog A (n+1) (.fn 173) [U (x:Int)] s=some [(I (len8 x:Int),s)]:=by
 rw [call_fn (fn:=Try.f173) (h.i _ (by decide)) (h.c _ (by decide)) (by kernel_rfl),h.r _ (by decide),f173_r,f173_B]
 obtain ⟨v,s',e,rfl,rfl⟩:=b3_ok (fun y h=>len8_ix h) s x hx
 exact e
theorem c132 (h:SB A) {n:Nat} {s:St (FG G)} (x:Nat) (hx:x<2^64):callD prog A (n+2) (.fn 132) [U (x:Int)] s=some [(I (len8 x:Int),s)]:=by
 rw [call_fn (fn:=Try.f132) (h.i _ (by decide)) (h.c _ (by decide)) (by kernel_rfl),h.r _ (by decide),f132_r]
 simp only [f132,oO,bindS,many1,jnE,boolS,gdB,fst',snd',c173 h (n:=n) x hx]
theorem c203 (h:SB A) {n:Nat} {s:St (FG G)} (x:Nat) (hx:x<2^40):callD prog A (n+3) (.fn 203) [I (x:Int)] s=some [(U ((2^len8 x:Nat):Int),s)]:=by
 rw [call_fn (fn:=Try.f203) (h.i _ (by decide)) (h.c _ (by decide)) (by kernel_rfl),h.r _ (by decide),f203_r]
 have w:IntKind.u64.wrap (x:Int)=(x:Int):=wrap_u64 (by omega) (by omega)
 have hl:=len8_40 hx
 have hp:2^len8 x≤2^40:=Nat.pow_le_pow_right (by decide) hl
 have e:bopD prog .shl 201 (U 1) (I (len8 x:Int))=some (U ((2^len8 x:Nat):Int)):=by
  rw [bop_int]
  simp only [intS,IntKind.bits]
  rw [if_neg (by omega),Int.toNat_natCast,Nat.min_eq_left (by omega),Int.one_mul,show (2:Int)^len8 x=((2^len8 x:Nat):Int) from by simp]
  generalize 2^len8 x=y at *
  rw [wrap_u64 (by omega) (by omega)]
 simp only [f203,oO,bindS,many1,jnE,boolS,gdB,fst',snd',conv_int u3 u201,w,c132 h (n:=n) x (by omega),e]
theorem uw (x:Int):∃ y:Nat,y<2^64∧IntKind.u64.wrap x=(y:Int):=by
 refine ⟨(x % 2^64).toNat,by omega,?_⟩
 rw [wrap_us rfl]
 show x % 18446744073709551616=_
 omega
theorem shl_u (a k:Nat):∃ y:Nat,y<2^64∧bopD prog .shl 261 (U (a:Int)) (U (k:Int))=some (U (y:Int)):=by
 obtain ⟨y,hy,e⟩:=uw ((a:Int)*2^min (k:Int).toNat 64)
 refine ⟨y,hy,?_⟩
 rw [bop_int]
 simp only [intS,IntKind.bits]
 rw [if_neg (by omega),e]
theorem shr_u (a k:Nat) (hk:k≤64) (ha:a<2^64):∃ y:Nat,y<2^64∧bopD prog .shr 261 (U (a:Int)) (U (k:Int))=some (U (y:Int)) :=
 ⟨a / 2^k,Nat.lt_of_le_of_lt (Nat.div_le_self _ _) ha,shr64' k hk⟩
theorem xor_u (a b:Nat):∃ y:Nat,y<2^64∧bopD prog .xor 261 (U (a:Int)) (U (b:Int))=some (U (y:Int)):=by
 obtain ⟨y,hy,e⟩:=uw (((BitVec.ofInt 64 (a:Int)) ^^^ (BitVec.ofInt 64 (b:Int))).toNat:Nat)
 refine ⟨y,hy,?_⟩
 rw [bop_int]
 exact congrArg (fun z=>some (Value.int IntKind.u64 z)) e
theorem and_u (a b:Nat) (hb:b<2^64):∃ y:Nat,y≤b∧bopD prog .and 201 (U (a:Int)) (U (b:Int))=some (U (y:Int)):=by
 have hle:((BitVec.ofInt 64 (a:Int)) &&& (BitVec.ofInt 64 (b:Int))).toNat≤b:=by
  rw [BitVec.toNat_and]
  refine Nat.le_trans Nat.and_le_right ?_
  rw [BitVec.ofInt_natCast,BitVec.toNat_ofNat,Nat.mod_eq_of_lt hb]
  exact Nat.le_refl _
 refine ⟨((BitVec.ofInt 64 (a:Int)) &&& (BitVec.ofInt 64 (b:Int))).toNat,hle,?_⟩
 rw [bop_int]
 exact congrArg (fun z=>some (Value.int IntKind.u64 z)) (show IntKind.u64.wrap (((BitVec.ofInt 64 (a:Int)) &&& (BitVec.ofInt 64 (b:Int))).toNat:Nat)=_ from wrap_u64 (by omega) (by omega))
theorem ldx {s:St (FG G)} {pid x:Nat} (h:(FG G).get s.h pid=some (.row [U (x:Int)])):loadD prog s 261 (pt pid 0)=some (U (x:Int)):=by rw [load_row h,part_one a261]; rfl
theorem stx {s:St (FG G)} {pid x y:Nat} (h:(FG G).get s.h pid=some (.row [U (x:Int)])):storeD prog s 261 (pt pid 0) (U (y:Int))=some (putD s pid (.row [U (y:Int)])):=by
 rw [store_row (l:=[U (y:Int)]) z261 h rfl rfl rfl (Nat.le_refl 1)]; rfl
theorem c204 (h:SB A) {n pid x:Nat} {s:St (FG G)} (g:(FG G).get s.h pid=some (.row [U (x:Int)])) (hx:x<2^64) :
 ∃ y:Nat,y<2^64∧callD prog A (n+1) (.fn 204) [pt pid 0] s=some [(U (y:Int),putD s pid (.row [U (y:Int)]))]:=by
 rw [call_fn (fn:=Try.f204) (h.i _ (by decide)) (h.c _ (by decide)) (by kernel_rfl),h.r _ (by decide),f204_r]
 have nil:nilCheckD (pt pid 0)=some (pt pid 0):=rfl
 obtain ⟨a1,_,e1⟩:=shl_u x 13
 obtain ⟨x1,hx1,e2⟩:=xor_u x a1
 obtain ⟨a2,_,e3⟩:=shr_u x1 7 (by decide) hx1
 obtain ⟨x2,hx2,e4⟩:=xor_u x1 a2
 obtain ⟨a3,_,e5⟩:=shl_u x2 17
 obtain ⟨x3,hx3,e6⟩:=xor_u x2 a3
 have e1:bopD prog .shl 261 (U (x:Int)) (U 13)=some (U (a1:Int)):=e1
 have e3:bopD prog .shr 261 (U (x1:Int)) (U 7)=some (U (a2:Int)):=e3
 have e5:bopD prog .shl 261 (U (x2:Int)) (U 17)=some (U (a3:Int)):=e5
 have g1:∀ y:Nat,(FG G).get (putD s pid (.row [U (y:Int)])).h pid=some (.row [U (y:Int)]):=fun y=>get_put_same _
 have t0:=stx (y:=x1) g
 have t1:=stx (y:=x2) (g1 x1)
 have t2:=stx (y:=x3) (g1 x2)
 rw [put_put] at t1 t2
 refine ⟨x3,hx3,?_⟩
 simp only [f204,oO,bindS,many1,jnE,boolS,gdB,fst',snd',nil,ldx g,e1,e2,t0,ldx (g1 x1),e3,e4,t1,ldx (g1 x2),e5,e6,t2,ldx (g1 x3)]
theorem c216 (h:SA A) (hB:SB A) (hN:A.N=2^64) {n id c a b:Nat} {s:St (FG G)} {l:List Nat} (g:(FG G).get s.h id=some (.row (rowU l))) (hid:id<s.n) (hab:a≤b) (hb:b≤l.length) (hl:l.length<2^40) :
 ∃ m s',PermIn a b l m∧But id s s'∧(FG G).get s'.h id=some (.row (rowU m))∧callD prog A (n+4) (.fn 216) [sU id l.length c,I (a:Int),I (b:Int)] s=some [(.tuple #[],s')]:=by
 rw [call_fn (fn:=Try.f216) (h.i _ (by decide) (by decide)) (h.c _ (by decide) (by decide)) (by kernel_rfl),h.r _ (by decide) (by decide)]
 suffices hh:One (bodyD prog false (callD prog A (n+3)) A.N 216 Try.f216 [sU id l.length c,I (a:Int),I (b:Int)] s) (fun v s'=>v=.tuple #[]∧∃ m,PermIn a b l m∧But id s s'∧(FG G).get s'.h id=some (.row (rowU m))) by
  obtain ⟨v,s',e,rfl,m,h1,h2,h3⟩:=hh
  exact ⟨m,s',h1,h2,h3,e⟩
 rw [f216_r,hN]
 obtain ⟨k,hk⟩:∃ k,k=b-a:=⟨_,rfl⟩
 have w1:IntKind.i64.wrap ((b:Int)-(a:Int))=((k:Nat):Int):=by rw [wrap_i64 (by omega) (by omega)]; omega
 simp only [f216,oO,bindS,many1,jnE,boolS,gdB,fst',snd',b_sub,w1,bop_geq]
 by_cases h8:((k:Nat):Int)≥8
 · rw [decide_eq_true h8]
   have w2:IntKind.u64.wrap ((k:Nat):Int)=((k:Nat):Int):=wrap_u64 (by omega) (by omega)
   have al:allocD prog s 261=some (pt s.n 0,newD s (.row [U 0])):=alloc_at zr261
   have t0:=stx (s:=newD s (.row [U 0])) (x:=0) (y:=k) (get_n0 s _)
   have q4:((k:Nat):Int).tdiv 4=((k / 4:Nat):Int):=by rw [show (4:Int)=((4:Nat):Int) from rfl,← Int.ofNat_tdiv]
   have w3:IntKind.i64.wrap ((k / 4:Nat):Int)=((k / 4:Nat):Int):=wrap_i64 (by omega) (by omega)
   have w4:IntKind.i64.wrap (((k / 4:Nat):Int)*2)=((k / 4*2:Nat):Int):=by rw [wrap_i64 (by omega) (by omega)]; omega
   have w5:IntKind.i64.wrap ((a:Int)+((k / 4*2:Nat):Int))=((a+k / 4*2:Nat):Int):=by rw [wrap_i64 (by omega) (by omega)]; omega
   have w6:IntKind.i64.wrap (((a+k / 4*2:Nat):Int)-1)=((a+k / 4*2-1:Nat):Int):=by rw [wrap_i64 (by omega) (by omega)]; omega
   have e13:bopD prog .sub 3 (I ((a+k / 4*2:Nat):Int)) (I 1)=some (I ((a+k / 4*2-1:Nat):Int)):=by rw [b_sub,w6]
   have w7:IntKind.i64.wrap (((a+k / 4*2:Nat):Int)+1)=((a+k / 4*2+1:Nat):Int):=by rw [wrap_i64 (by omega) (by omega)]; omega
   have hk0:k≠0:=by omega
   obtain ⟨hm1,hm2⟩:=len8_pow hk0
   have e203:=c203 hB (n:=n) (s:=putD (newD s (.row [U 0])) s.n (.row [U ((k:Nat):Int)])) k (by omega)
   generalize 2^len8 k=M at *
   have wM:IntKind.u64.wrap ((M:Int)-1)=((M-1:Nat):Int):=by rw [wrap_u64 (by omega) (by omega)]; omega
   simp only [oO,bindS,many1,jnE,boolS,gdB,fst',snd',condT,conv_int u3 u261,w2,al,t0,e203,b_quo _ _ _ _ (show (4:Int)≠0 by decide),q4,w3,bop_mul,w4,bop_add,w5]
   rw [e13,bindS]
   rw [show a+k / 4*2-1=a+k / 4*2-1+0 from rfl]
   have hg0:(FG G).get (putD (newD s (.row [U 0])) s.n (.row [U ((k:Nat):Int)])).h id=some (.row (rowU l)):=by rw [get_put_other (by omega),get_old (by omega)]; exact g
   refine list_one (List.replicate 3 ()) (fun t (z:Value×Value) (s':St (FG G))=>z.1=I ((a+k / 4*2-1+t:Nat):Int)∧∃ m x,PermIn a b l m∧But id s s'∧s.n<s'.n∧(FG G).get s'.h id=some (.row (rowU m))∧x<2^64∧(FG G).get s'.h s.n=some (.row [U ((x:Nat):Int)])) ?_ ?_ ⟨rfl,l,k,.refl _ _ _,((But.refl id s).new _).putNew (Nat.le_refl _) _,by rw [putD_n,newD_n]; omega,hg0,by omega,get_put_same _⟩ (by decide)
   · rintro t ht ⟨z1,z2⟩ s' ⟨e1,m,x,hP,hBu,hn,hg,hx,hgx⟩ nx hnx
     simp only at e1
     subst e1
     rw [List.length_replicate] at ht
     have hml:=hP.len
     have le:((a+k / 4*2-1+t:Nat):Int)≤((a+k / 4*2+1:Nat):Int):=by omega
     obtain ⟨y,hy,e204⟩:=c204 hB (n:=n+2) hgx hx
     obtain ⟨o,ho,eand⟩:=and_u y (M-1) (by omega)
     have wo:IntKind.i64.wrap ((o:Nat):Int)=((o:Nat):Int):=wrap_i64 (by omega) (by omega)
     simp only [f216_l0,oO,bindS,many1,boolS,gdB,fst',snd',b_quo _ _ _ _ (show (4:Int)≠0 by decide),q4,w3,bop_mul,w4,bop_add,w5,w7,bop_leq,le,decide_true,condT,e204,b_sub,wM,eand,conv_int u201 u3,wo,bop_geq]
     have hg2:(FG G).get (putD s' s.n (.row [U ((y:Nat):Int)])).h id=some (.row (rowU m)):=by rw [get_put_other (by omega)]; exact hg
     have hgy:(FG G).get (putD s' s.n (.row [U ((y:Nat):Int)])).h s.n=some (.row [U ((y:Nat):Int)]):=get_put_same _
     have hB2:But id s (putD s' s.n (.row [U ((y:Nat):Int)])):=hBu.putNew (Nat.le_refl _) _
     have hn2:s.n<(putD s' s.n (.row [U ((y:Nat):Int)])).n:=hn
     generalize putD s' s.n (.row [U ((y:Nat):Int)])=s2 at *
     refine jn_rule (fun f=>∀ j:Nat,j<k→One (f (I (j:Int))) fun v s'=>v=.tuple #[]∧∃ m,PermIn a b l m∧But id s s'∧(FG G).get s'.h id=some (.row (rowU m))) (fun R=>One R fun v s'=>v=.tuple #[]∧∃ m,PermIn a b l m∧But id s s'∧(FG G).get s'.h id=some (.row (rowU m))) ?_ ?_
     · intro j hj
       have b1:a+k / 4*2-1+t<m.length:=by omega
       have b2:a+j<m.length:=by omega
       have w8:IntKind.i64.wrap ((a:Int)+(j:Int))=((a+j:Nat):Int):=by rw [wrap_i64 (by omega) (by omega)]; omega
       have w9:IntKind.i64.wrap (((a+k / 4*2-1+t:Nat):Int)+1)=((a+k / 4*2-1+(t+1):Nat):Int):=by rw [wrap_i64 (by omega) (by omega)]; omega
       have ix1:indexAddrD prog 67 (sU id l.length c) (I ((a+k / 4*2-1+t:Nat):Int))=some (pt id (a+k / 4*2-1+t)):=ixU (by omega)
       have ix2:indexAddrD prog 67 (sU id l.length c) (I ((a+j:Nat):Int))=some (pt id (a+j)):=ixU (by omega)
       obtain ⟨t1,t2⟩:=sw3 (s:=s2) (id:=id) b1 b2
       rw [put_same hg2] at t1
       simp only [oO,bindS,many1,jnE,boolS,gdB,fst',snd',bop_add,w8,ix1,ix2,ldg hg2 b1,ldg hg2 b2,t1,t2,w9]
       exact hnx (_,_) _ ⟨rfl,_,y,hP.trans (PermIn.swap m b1 b2 (by omega) (by omega) (by omega) (by omega)),hB2.put _,hn2,get_put_same _,hy,by rw [get_put_other (by omega)]; exact hgy⟩
     · intro f hf
       by_cases hc:((o:Nat):Int)≥((k:Nat):Int)
       · have w8:IntKind.i64.wrap ((o:Int)-(k:Int))=((o-k:Nat):Int):=by rw [wrap_i64 (by omega) (by omega)]; omega
         rw [decide_eq_true hc]
         simp only [oO,bindS,many1,jnE,boolS,gdB,fst',snd',condT,b_sub,w8]
         exact hf _ (by omega)
       · rw [decide_eq_false hc]
         simp only [oO,bindS,many1,jnE,boolS,gdB,fst',snd',condF]
         exact hf _ (by omega)
   · rintro ⟨z1,z2⟩ s' ⟨e1,m,x,hP,hBu,hn,hg,hx,hgx⟩ nx
     simp only at e1
     subst e1
     rw [List.length_replicate]
     have le:¬ ((a+k / 4*2-1+3:Nat):Int)≤((a+k / 4*2+1:Nat):Int):=by omega
     simp only [f216_l0,oO,bindS,many1,jnE,boolS,gdB,fst',snd',b_quo _ _ _ _ (show (4:Int)≠0 by decide),q4,w3,bop_mul,w4,bop_add,w5,w7,bop_leq,le,decide_false,condF,beq_yes,condT]
     exact One.ret ⟨rfl,m,hP,hBu,hg⟩
 · rw [decide_eq_false h8]
   simp only [oO,bindS,many1,jnE,boolS,gdB,fst',snd',condF]
   exact One.ret ⟨rfl,l,.refl _ _ _,.refl _ _,g⟩
end
end Go.Proofs.Ytmhmbmogodofeaa.S
namespace Go.Proofs.Ytmhmbmogodofeaa.S
open Go.FS Go.RowKit
open Go.Proofs.Try (prog)
attribute [local congr] bind_cg cond_cg gd_cg
open Go.FS.Q
section
variable {G:Nat→Option (Array Value)} {A:Ann (FG G)}
theorem Srt.of {a b:Nat} {m:List Nat} (hb:b≤m.length) (h:SortIn a b m):Srt a b m:=(sortIn_iff hb).1 h
structure Lft (id a b x y:Nat) (l m:List Nat) (s s':St (FG G)):Prop where
 ax:a≤x
 yb:y≤b
 xy:x≤y
 perm:PermIn a b l m
 but:But id s s'
 get:(FG G).get s'.h id=some (.row (rowU m))
 lo:Lo x y m
 fin:∀ m',PermIn x y m m'→Srt x y m'→Srt a b m'
theorem Lft.next {id a b x y:Nat} {l m m':List Nat} {s s' s2:St (FG G)} (h:Lft id a b x y l m s s') (hb:b≤l.length) (hp:PermIn x y m m') (hB:But id s' s2) (hg:(FG G).get s2.h id=some (.row (rowU m'))):Lft id a b x y l m' s s2 :=
 ⟨h.ax,h.yb,h.xy,h.perm.trans (hp.wide h.ax h.yb),h.but.trans hB,hg,h.lo.perm hp (Nat.le_refl _) (Nat.le_refl _) (by have:=h.perm.len; have:=h.yb; omega) h.xy,fun m2 k1 k2=>h.fin m2 (hp.trans k1) k2⟩
theorem But.here {id:Nat} {s:St (FG G)} (o:DObj):But id s (putD s id o):=(But.refl id s).put o
theorem c211 (h:SA A) (hB:SB A) (hN:A.N=2^64) {id c L:Nat} (hl:L<2^40) (N:Nat):∀ (E a b lim:Nat) (s:St (FG G)) (l:List Nat),l.length=L→(FG G).get s.h id=some (.row (rowU l))→id<s.n→b-a≤N→N+20≤E→a≤b→b≤L→lim<2^40→Lo a b l →
 ∃ m s',PermIn a b l m∧Srt a b m∧But id s s'∧(FG G).get s'.h id=some (.row (rowU m))∧callD prog A (E+1) (.fn 211) [sU id L c,I (a:Int),I (b:Int),I (lim:Int)] s=some [(.tuple #[],s')]:=by
 induction N using Nat.strongRecOn with
 | _ N IH =>
 intro E a b lim s l hL g hid hbN hE hab hb hlim hLo
 rw [call_fn (fn:=Try.f211) (h.i _ (by decide) (by decide)) (h.c _ (by decide) (by decide)) (by kernel_rfl),h.r _ (by decide) (by decide)]
 suffices hh:One (bodyD prog false (callD prog A E) A.N 211 Try.f211 [sU id L c,I (a:Int),I (b:Int),I (lim:Int)] s) (fun v s'=>v=.tuple #[]∧∃ m,PermIn a b l m∧Srt a b m∧But id s s'∧(FG G).get s'.h id=some (.row (rowU m))) by
  obtain ⟨v,s',e,rfl,m,h1,h2,h3,h4⟩:=hh
  exact ⟨m,s',h1,h2,h3,h4,e⟩
 rw [f211_r,hN]
 simp only [f211]
 obtain ⟨Q,hQ⟩:∃ Q:Value→St (FG G)→Prop,Q=fun v s'=>v=.tuple #[]∧∃ m,PermIn a b l m∧Srt a b m∧But id s s'∧(FG G).get s'.h id=some (.row (rowU m)):=⟨_,rfl⟩
 rw [← hQ]
 have done:∀ x y m m' s' s2,Lft id a b x y l m s s'→PermIn x y m m'→Srt x y m'→But id s' s2→(FG G).get s2.h id=some (.row (rowU m'))→One (some [(.tuple #[],s2)]) Q:=fun x y m m' s' s2 hF k1 k2 k3 k4=>by
  rw [hQ]
  exact One.ret ⟨rfl,m',hF.perm.trans (k1.wide hF.ax hF.yb),hF.fin m' k1 k2,hF.but.trans k3,k4⟩
 refine loop_rule (fun d (z:Value×Value×Value×Value×Value×Value×Value×Value×Value×Value×Value×Value×Value×Value) (s':St (FG G))=>∃ x y lim m,∃ w p:Bool,d=y-x∧z.1=I ((x:Nat):Int)∧z.2.1=I ((y:Nat):Int)∧z.2.2.1=I ((lim:Nat):Int)∧lim<2^40∧z.2.2.2.1=.bool w∧z.2.2.2.2.1=.bool p∧Lft id a b x y l m s s') (fun R=>One R Q) ?_ _ (b-a) _ _ ⟨a,b,lim,l,true,true,rfl,rfl,rfl,rfl,hlim,rfl,rfl,⟨Nat.le_refl _,Nat.le_refl _,hab,.refl _ _ _,But.refl _ _,g,hLo,fun m' _ k=>k⟩⟩ (by omega)
 rintro d ⟨z1,z2,z3,z4,z5,z6,e11,e12,e13,e14,e15,e16,e17,e18⟩ s' ⟨x,y,lim,m,w,p,rfl,q1,q2,q3,hlim,q4,q5,hF⟩ nx hnx
 simp only at q1 q2 q3 q4 q5
 subst q1 q2 q3 q4 q5
 have hml:m.length=L:=by rw [hF.perm.len,hL]
 have hax:=hF.ax
 have hyb:=hF.yb
 have hxy:=hF.xy
 obtain ⟨k,hk⟩:∃ k,k=y-x:=⟨_,rfl⟩
 have w1:IntKind.i64.wrap ((y:Int)-(x:Int))=((k:Nat):Int):=by rw [wrap_i64 (by omega) (by omega)]; omega
 simp only [f211_l0,oO,bindS,many1,jnE,boolS,gdB,fst',snd',b_sub,w1,bop_leq]
 by_cases h12:((k:Nat):Int)≤12
 · obtain ⟨m',k1,k2,e⟩:=c214 h hN (n:=E-3) (c:=c) (a:=x) (b:=y) hF.get hxy (by omega) (by omega)
   rw [hml,Nat.sub_add_cancel (by omega)] at e
   rw [decide_eq_true h12]
   simp only [oO,bindS,many1,jnE,boolS,gdB,fst',snd',condT,e]
   exact done x y m m' s' _ hF k1 (Srt.of (by rw [k1.len]; omega) k2) (But.here _) (get_put_same _)
 rw [decide_eq_false h12]
 simp only [oO,bindS,many1,jnE,boolS,gdB,fst',snd',condF,f211_j0,bop_eql]
 by_cases h0:((lim:Nat):Int)=0
 · obtain ⟨m',k1,k2,e⟩:=c215 h hN (n:=E-4) (c:=c) (a:=x) (b:=y) hF.get (by omega) (by omega) (by omega)
   rw [hml,Nat.sub_add_cancel (by omega)] at e
   rw [decide_eq_true h0]
   simp only [oO,bindS,many1,jnE,boolS,gdB,fst',snd',condT,e]
   exact done x y m m' s' _ hF k1 (Srt.of (by rw [k1.len]; omega) k2) (But.here _) (get_put_same _)
 rw [decide_eq_false h0]
 simp only [condF]
 have go:∀ (x' y' lim':Nat) (w' p':Bool) (m:List Nat) (s2:St (FG G)) (z6 e11 e12 e13 e14 e15 e16 e17 e18:Value),y'-x'<y-x→lim'<2^40→Lft id a b x' y' l m s s2→One (nx (I (x':Int),I (y':Int),I (lim':Int),.bool w',.bool p',z6,e11,e12,e13,e14,e15,e16,e17,e18) s2) Q:=fun x' y' lim' w' p' m s2 z6 e11 e12 e13 e14 e15 e16 e17 e18 k1 k2 k3=>hnx (y'-x') _ _ k1 ⟨x',y',lim',m,w',p',rfl,rfl,rfl,rfl,k2,rfl,rfl,k3⟩
 have w8:IntKind.i64.wrap ((k:Int).tdiv 8)=((k / 8:Nat):Int):=by
  rw [show (k:Int).tdiv 8=((k / 8:Nat):Int) from by rw [show (8:Int)=((8:Nat):Int) from rfl,← Int.ofNat_tdiv],wrap_i64 (by omega) (by omega)]
 have j5:∀ (pv lim:Nat) (m:List Nat) (s':St (FG G)) (e12 e13:Value),x≤pv→pv<y→lim<2^40→Lft id a b x y l m s s'→One (f211_j5 (dOps (H:=FG G) prog) (callD prog A E) (2^64) (sU id L c) (I (x:Int)) (I (y:Int)) (I (lim:Int)) (I (k:Int)) (I (pv:Int)) e12 e13 nx (fun i320 x321 s322=>bif Nat.beq i320 0 then some [(.tuple #[],s322)] else none) (fun x323 s324=>some [(.tuple #[],s324)]) s') Q:=by
  intro pv lim m s' e12 e13 hp1 hp2 hlim hF
  have hml:m.length=L:=by rw [hF.perm.len,hL]
  obtain ⟨m2,mid,bl,k1,k2,k3,k4,k5,e⟩:=c222 h hN (n:=E-3) (c:=c) (a:=x) (b:=y) hF.get hp1 hp2 (by omega) (by omega)
  rw [hml,Nat.sub_add_cancel (by omega)] at e
  have hml2:m2.length=L:=by rw [k1.len,hml]
  have w2:IntKind.i64.wrap ((mid:Int)-(x:Int))=((mid-x:Nat):Int):=by rw [wrap_i64 (by omega) (by omega)]; omega
  have w3:IntKind.i64.wrap ((y:Int)-(mid:Int))=((y-mid:Nat):Int):=by rw [wrap_i64 (by omega) (by omega)]; omega
  have w4:IntKind.i64.wrap ((mid:Int)+1)=((mid+1:Nat):Int):=by rw [wrap_i64 (by omega) (by omega)]; omega
  have hF2:=hF.next (by omega) k1 (But.here (id:=id) (s:=s') _) (get_put_same _)
  simp only [f211_j5,oO,bindS,many1,jnE,boolS,gdB,fst',snd',e,xt2,b_sub,w2,w3,b_quo _ _ _ _ (show (8:Int)≠0 by decide),w8,bop_lss]
  have hid2:id<(putD s' id (.row (rowU m2))).n:=by rw [putD_n]; have:=hF.but.1; omega
  have pz:∀ i,x≤i→i<mid→gt m2 i≤gt m2 mid:=k4
  by_cases hlt:((mid-x:Nat):Int)<((y-mid:Nat):Int)
  · obtain ⟨m3,s3,r1,r2,r3,r4,e2⟩:=IH (mid-x) (by omega) (E-1) x mid lim (putD s' id (.row (rowU m2))) m2 hml2 (get_put_same _) hid2 (Nat.le_refl _) (by omega) k2 (by omega) hlim (by
     rcases hF2.lo with h0 | h0
     · exact .inl h0
     · exact .inr fun i q1 q2=>h0 i q1 (by omega))
    rw [Nat.sub_add_cancel (by omega)] at e2
    rw [decide_eq_true hlt]
    simp only [oO,bindS,many1,jnE,boolS,gdB,fst',snd',condT,bop_geq,e2,bop_add,w4]
    have r1':PermIn x y m2 m3:=r1.wide (Nat.le_refl _) (by omega)
    have hF3:=hF2.next (by omega) r1' r3 r4
    have emid:gt m3 mid=gt m2 mid:=r1.same (.inr (Nat.le_refl _))
    refine go (mid+1) y lim _ bl m3 s3 _ _ _ _ _ _ _ _ _ (by omega) hlim ⟨by omega,hF3.yb,by omega,hF3.perm,hF3.but,hF3.get,.inr ?_,fun m' v1 v2=>hF3.fin m' (v1.wide (by omega) (Nat.le_refl _)) ?_⟩
    · intro i q1 q2
      rw [show mid+1-1=mid from by omega,emid,r1.same (.inr (by omega))]
      exact k5 i q1 q2
    · have sm:∀ i,i<mid+1→gt m' i=gt m3 i:=fun i hi=>v1.same (.inl (by omega))
      have hle:Le x mid m3 (gt m2 mid):=Le.perm k4 r1 (by omega)
      have hge:Ge (mid+1) y m' (gt m2 mid):=by
       refine Ge.perm (l:=m3) (fun i q1 q2=>?_) v1 (by rw [r1.len]; omega)
       rw [r1.same (.inr (by omega))]; exact k5 i q1 q2
      refine sort_join (c:=mid+1) (x:=gt m2 mid) (fun i j q1 q2 q3=>?_) v2 (fun i q1 q2=>?_) hge
      · rw [sm i (by omega),sm j q3]
        by_cases ej:j=mid
        · subst ej
          by_cases ei:i=j
          · subst ei; exact Nat.le_refl _
          · rw [emid]; exact hle i q1 (by omega)
        · exact r2 i j q1 q2 (by omega)
      · rw [sm i (by omega)]
        by_cases ei:i=mid
        · subst ei; rw [emid]; exact Nat.le_refl _
        · exact hle i q1 (by omega)
  · obtain ⟨m3,s3,r1,r2,r3,r4,e2⟩:=IH (y-(mid+1)) (by omega) (E-1) (mid+1) y lim (putD s' id (.row (rowU m2))) m2 hml2 (get_put_same _) hid2 (Nat.le_refl _) (by omega) (by omega) (by omega) hlim (.inr fun i q1 q2=>by rw [show mid+1-1=mid from by omega]; exact k5 i q1 q2)
    rw [Nat.sub_add_cancel (by omega)] at e2
    rw [decide_eq_false hlt]
    simp only [oO,bindS,many1,jnE,boolS,gdB,fst',snd',condF,bop_geq,e2,bop_add,w4]
    have r1':PermIn x y m2 m3:=r1.wide (by omega) (Nat.le_refl _)
    have hF3:=hF2.next (by omega) r1' r3 r4
    have emid:gt m3 mid=gt m2 mid:=r1.same (.inl (by omega))
    refine go x mid lim _ bl m3 s3 _ _ _ _ _ _ _ _ _ (by omega) hlim ⟨hF3.ax,by omega,k2,hF3.perm,hF3.but,hF3.get,?_,fun m' v1 v2=>hF3.fin m' (v1.wide (Nat.le_refl _) (by omega)) ?_⟩
    · rcases hF3.lo with h0 | h0
      · exact .inl h0
      · exact .inr fun i q1 q2=>h0 i q1 (by omega)
    · have sm:∀ i,mid≤i→gt m' i=gt m3 i:=fun i hi=>v1.same (.inr hi)
      have hge:Ge (mid+1) y m3 (gt m2 mid):=Ge.perm k5 r1 (by omega)
      have hle:Le x mid m' (gt m2 mid):=by
       refine Le.perm (l:=m3) (fun i q1 q2=>?_) v1 (by rw [r1.len]; omega)
       rw [r1.same (.inl (by omega))]; exact k4 i q1 q2
      refine sort_join (c:=mid) (x:=gt m2 mid) v2 (fun i j q1 q2 q3=>?_) hle (fun i q1 q2=>?_)
      · rw [sm i q1,sm j (by omega)]
        by_cases ei:i=mid
        · subst ei
          by_cases ej:j=i
          · subst ej; exact Nat.le_refl _
          · rw [emid]; exact hge j (by omega) q3
        · exact r2 i j (by omega) q2 q3
      · rw [sm i q1]
        by_cases ei:i=mid
        · subst ei; rw [emid]; exact Nat.le_refl _
        · exact hge i (by omega) q2
 have j4:∀ (pv lim:Nat) (m:List Nat) (s':St (FG G)) (e12 e13 e14 e15 e16 e17 e18:Value),x≤pv→pv<y→lim<2^40→Lft id a b x y l m s s'→One (f211_j4 (dOps (H:=FG G) prog) (callD prog A E) (2^64) (sU id L c) (I (x:Int)) (I (y:Int)) (I (lim:Int)) (.bool w) (.bool p) (I (k:Int)) (I (pv:Int)) e12 e13 e14 e15 e16 e17 e18 nx (fun i320 x321 s322=>bif Nat.beq i320 0 then some [(.tuple #[],s322)] else none) (fun x323 s324=>some [(.tuple #[],s324)]) s') Q:=by
  intro pv lim m s' e12 e13 e14 e15 e16 e17 e18 hp1 hp2 hlim hF
  have hml:m.length=L:=by rw [hF.perm.len,hL]
  unfold f211_j4
  by_cases hx:(x:Int)>0
  · have w2:IntKind.i64.wrap ((x:Int)-1)=((x-1:Nat):Int):=by rw [wrap_i64 (by omega) (by omega)]; omega
    have ix1:indexAddrD prog 67 (sU id L c) (I ((x-1:Nat):Int))=some (pt id (x-1)):=ixU (by omega)
    have ix2:indexAddrD prog 67 (sU id L c) (I ((pv:Nat):Int))=some (pt id pv):=ixU (by omega)
    have l1:=ldg hF.get (i:=x-1) (by omega)
    have l2:=ldg hF.get (i:=pv) (by omega)
    have e220:=oneS (c220 h (n:=E-2) (s:=s') (gt m (x-1)) (gt m pv))
    rw [Nat.sub_add_cancel (by omega)] at e220
    by_cases hlt:gt m (x-1)<gt m pv
    · rw [decide_eq_true hlt] at e220
      simp only [oO,bindS,many1,jnE,boolS,gdB,fst',snd',bop_gtr,hx,decide_true,condT,b_sub,w2,ix1,ix2,l1,l2,e220,uop_not,Bool.not_true,condF]
      exact j5 pv lim m s' _ _ hp1 hp2 hlim hF
    · rw [decide_eq_false hlt] at e220
      obtain ⟨m2,mid,k1,k2,k3,k4,k5,k6,e⟩:=c221 h hN (n:=E-3) (c:=c) (a:=x) (b:=y) hF.get hp1 hp2 (by omega) (by omega)
      rw [hml,Nat.sub_add_cancel (by omega)] at e
      simp only [oO,bindS,many1,jnE,boolS,gdB,fst',snd',bop_gtr,hx,decide_true,condT,b_sub,w2,ix1,ix2,l1,l2,e220,uop_not,Bool.not_false,e]
      have hF2:=hF.next (by omega) k1 (But.here (id:=id) (s:=s') _) (get_put_same _)
      have hGe:Ge x y m2 (gt m pv):=by
       rcases hF2.lo with h0 | h0
       · omega
       · intro i q1 q2
         have:=h0 i q1 q2
         rw [k1.same (.inl (by omega))] at this
         rcases hF.lo with h9 | h9
         · omega
         · have:=h9 pv hp1 hp2; omega
      refine go mid y lim w p m2 _ _ _ _ _ _ _ _ _ _ (by omega) hlim ⟨by omega,hF2.yb,k3,hF2.perm,hF2.but,hF2.get,.inr fun i q1 q2=>?_,fun m' v1 v2=>hF2.fin m' (v1.wide (by omega) (Nat.le_refl _)) ?_⟩
      · exact Nat.le_trans (k5 (mid-1) (by omega) (by omega)) (k6 i q1 q2)
      · have sm:∀ i,i<mid→gt m' i=gt m2 i:=fun i hi=>v1.same (.inl hi)
        refine sort_join (c:=mid) (x:=gt m pv) (fun i j q1 q2 q3=>?_) v2 (fun i q1 q2=>by rw [sm i q2]; exact k5 i q1 q2) (Ge.perm k6 v1 (by rw [k1.len]; omega))
        rw [sm i (by omega),sm j q3]
        exact Nat.le_trans (k5 i q1 (by omega)) (hGe j (by omega) (by omega))
  · simp only [bop_gtr,oi,hx,decide_false,bindS,gdB,condF]
    exact j5 pv lim m s' e12 e13 hp1 hp2 hlim hF
 have j3:∀ (pv lim:Nat) (hint:Int) (m:List Nat) (s':St (FG G)) (e13 e14 e15 e16 e17 e18:Value),x≤pv→pv<y→lim<2^40→Lft id a b x y l m s s'→One (f211_j3 (dOps (H:=FG G) prog) (callD prog A E) (2^64) (sU id L c) (I (x:Int)) (I (y:Int)) (I (lim:Int)) (.bool w) (.bool p) (I (k:Int)) (I (pv:Int)) (I hint) e13 e14 e15 e16 e17 e18 nx (fun i320 x321 s322=>bif Nat.beq i320 0 then some [(.tuple #[],s322)] else none) (fun x323 s324=>some [(.tuple #[],s324)]) s') Q:=by
  intro pv lim hint m s' e13 e14 e15 e16 e17 e18 hp1 hp2 hlim hF
  have hml:m.length=L:=by rw [hF.perm.len,hL]
  unfold f211_j3
  cases w with
  | false =>
    rw [gdB,condF]
    exact j4 pv lim m s' (I hint) e13 e14 e15 e16 e17 e18 hp1 hp2 hlim hF
  | true =>
    rw [gdB,condT]
    cases p with
    | false =>
     rw [gdB,condF]
     exact j4 pv lim m s' (I hint) e13 e14 e15 e16 e17 e18 hp1 hp2 hlim hF
    | true =>
     rw [gdB,condT]
     by_cases hh:hint=1
     · obtain ⟨m2,bl,k1,k2,e⟩:=c219 h hN (n:=E-3) (c:=c) (a:=x) (b:=y) hF.get (by omega) (by omega) (by omega) hF.lo
       rw [hml,Nat.sub_add_cancel (by omega)] at e
       have hF2:=hF.next (by omega) k1 (But.here (id:=id) (s:=s') _) (get_put_same _)
       simp only [oO,bindS,many1,jnE,boolS,gdB,fst',snd',bop_eql,hh,decide_true,condT,e]
       cases bl with
       | true =>
         simp only [condT]
         exact done x y m m2 s' _ hF k1 (k2 rfl) (But.here _) (get_put_same _)
       | false =>
         simp only [condF]
         exact j4 pv lim m2 _ _ e13 e14 e15 e16 e17 e18 hp1 hp2 hlim hF2
     · simp only [oO,bindS,many1,jnE,boolS,gdB,fst',snd',bop_eql,hh,decide_false,condF]
       exact j4 pv lim m s' _ e13 e14 e15 e16 e17 e18 hp1 hp2 hlim hF
 have j2:∀ (lim:Nat) (m:List Nat) (s':St (FG G)) (e13 e14 e15 e16 e17 e18:Value),lim<2^40→Lft id a b x y l m s s'→One (f211_j2 (dOps (H:=FG G) prog) (callD prog A E) (2^64) (sU id L c) (I (x:Int)) (I (y:Int)) (I (lim:Int)) (.bool w) (.bool p) (I (k:Int)) e13 e14 e15 e16 e17 e18 nx (fun i320 x321 s322=>bif Nat.beq i320 0 then some [(.tuple #[],s322)] else none) (fun x323 s324=>some [(.tuple #[],s324)]) s') Q:=by
  intro lim m s' e13 e14 e15 e16 e17 e18 hlim hF
  have hml:m.length=L:=by rw [hF.perm.len,hL]
  have hid2:id<s'.n:=by have:=hF.but.1; omega
  obtain ⟨pv,hint,s2,e,p1,p2,hX⟩:=c217 h (n:=E-6) (c:=c) (a:=x) (b:=y) hF.get hid2 (by omega) (by omega) (by omega)
  rw [hml,Nat.sub_add_cancel (by omega)] at e
  have g2:(FG G).get s2.h id=some (.row (rowU m)):=by rw [hX.2 id hid2]; exact hF.get
  have hF2:=hF.next (by omega) (.refl _ _ _) ((But.refl id s').ext hX) g2
  unfold f211_j2
  by_cases hh:hint=2
  · obtain ⟨m2,k1,e2⟩:=c218 h hN (n:=E-1) (c:=c) (a:=x) (b:=y) g2 hxy (by omega) (by omega)
    rw [hml,Nat.sub_add_cancel (by omega)] at e2
    have w2:IntKind.i64.wrap ((y:Int)-1)=((y-1:Nat):Int):=by rw [wrap_i64 (by omega) (by omega)]; omega
    have w3:IntKind.i64.wrap ((pv:Int)-(x:Int))=((pv-x:Nat):Int):=by rw [wrap_i64 (by omega) (by omega)]; omega
    have w4:IntKind.i64.wrap (((y-1:Nat):Int)-((pv-x:Nat):Int))=((y-1-(pv-x):Nat):Int):=by rw [wrap_i64 (by omega) (by omega)]; omega
    simp only [oO,bindS,many1,jnE,boolS,gdB,fst',snd',e,xt2,bop_eql,hh,decide_true,condT,e2,b_sub,w2,w3,w4]
    exact j3 _ lim 1 m2 _ _ _ _ _ _ _ (by omega) (by omega) hlim (hF2.next (by omega) k1 (But.here _) (get_put_same _))
  · simp only [oO,bindS,many1,jnE,boolS,gdB,fst',snd',e,xt2,bop_eql,hh,decide_false,condF]
    exact j3 pv lim hint m s2 _ _ _ _ _ _ p1 p2 hlim hF2
 have hid2:id<s'.n:=by have:=hF.but.1; omega
 cases w with
 | true =>
  simp only [f211_j1,oO,bindS,many1,jnE,boolS,gdB,fst',snd',uop_not,Bool.not_true,condF]
  exact j2 lim m s' _ _ _ _ _ _ hlim hF
 | false =>
  obtain ⟨m2,s2,k1,k2,k3,e⟩:=c216 h hB hN (n:=E-4) (c:=c) (a:=x) (b:=y) hF.get hid2 hxy (by omega) (by omega)
  rw [hml,Nat.sub_add_cancel (by omega)] at e
  have wl:IntKind.i64.wrap ((lim:Int)-1)=((lim-1:Nat):Int):=by rw [wrap_i64 (by omega) (by omega)]; omega
  simp only [f211_j1,oO,bindS,many1,jnE,boolS,gdB,fst',snd',uop_not,Bool.not_false,condT,e,b_sub,wl]
  exact j2 (lim-1) m2 s2 _ _ _ _ _ _ (by omega) (hF.next (by omega) k1 k2 k3)
end
end Go.Proofs.Ytmhmbmogodofeaa.S
