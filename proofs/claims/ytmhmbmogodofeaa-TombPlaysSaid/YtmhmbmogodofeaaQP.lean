import Derived.Test.YtmhmbmogodofeaaFy
import Derived.Test.YtmhmbmogodofeaaQZ
import Derived.Test.YtmhmbmogodofeaaTQ
import Derived.Test.YtmhmbmogodofeaaSQ
import Derived.Test.YtmhmbmogodofeaaS222
set_option linter.unusedVariables false
set_option linter.unusedSimpArgs false
set_option maxRecDepth 100000
namespace Go.Proofs.Ytmhmbmogodofeaa.S
open Go.FS Go.RowKit
open Go.Proofs.Try (prog)
attribute [local congr] bind_cg cond_cg gd_cg
section short
variable {H:HeapI} {P:Program}
theorem oa:(dOps (H:=H) P).boolO=boolD:=rfl
theorem ob:(dOps (H:=H) P).alloc=allocD P:=rfl
theorem oc:(dOps (H:=H) P).box=boxD:=rfl
theorem od:(dOps (H:=H) P).build=buildD P:=rfl
theorem oe:(dOps (H:=H) P).buildSlice=buildSliceD P:=rfl
theorem of:(dOps (H:=H) P).load=loadD P:=rfl
theorem og:(dOps (H:=H) P).store=storeD P:=rfl
theorem oh:(dOps (H:=H) P).nilCheck=nilCheckD:=rfl
theorem oi:(dOps (H:=H) P).bop=bopD P:=rfl
theorem oj:(dOps (H:=H) P).uop=uopD P:=rfl
theorem ok:(dOps (H:=H) P).conv=convertD P:=rfl
theorem ol:(dOps (H:=H) P).slc=slcD P:=rfl
theorem om:(dOps (H:=H) P).fieldAddr=fieldAddrD P:=rfl
theorem on:(dOps (H:=H) P).field=fieldD P:=rfl
theorem oo:(dOps (H:=H) P).indexAddr=indexAddrD P:=rfl
theorem op:(dOps (H:=H) P).index=indexD P:=rfl
theorem oq:(dOps (H:=H) P).extract=extractD:=rfl
theorem or:(dOps (H:=H) P).lookup=lookupD P:=rfl
theorem os:(dOps (H:=H) P).mapUpdate=mapUpdateD P:=rfl
theorem ot:(dOps (H:=H) P).makeSlice=makeSliceD P:=rfl
theorem ou:(dOps (H:=H) P).makeMap=makeMapO P:=rfl
theorem ov:(dOps (H:=H) P).mapEntry=mapEntryD P:=rfl
theorem ow:(dOps (H:=H) P).entryStore=entryStoreD:=rfl
theorem ox:(dOps (H:=H) P).delete=deleteD P:=rfl
theorem oy:(dOps (H:=H) P).len=lenOfD P:=rfl
theorem oz:(dOps (H:=H) P).append=appD P:=rfl
theorem oA:(dOps (H:=H) P).minO=minD P:=rfl
theorem oB:(dOps (H:=H) P).maxO=maxD P:=rfl
theorem oC:(dOps (H:=H) P).tgt=tgtD:=rfl
theorem oO:((dOps (H:=H) P).boolO=boolD)∧((dOps (H:=H) P).alloc=allocD P)∧((dOps (H:=H) P).box=boxD)∧((dOps (H:=H) P).build=buildD P)∧((dOps (H:=H) P).buildSlice=buildSliceD P)∧((dOps (H:=H) P).load=loadD P)∧((dOps (H:=H) P).store=storeD P)∧((dOps (H:=H) P).nilCheck=nilCheckD)∧((dOps (H:=H) P).bop=bopD P)∧((dOps (H:=H) P).uop=uopD P)∧((dOps (H:=H) P).conv=convertD P)∧((dOps (H:=H) P).slc=slcD P)∧((dOps (H:=H) P).fieldAddr=fieldAddrD P)∧((dOps (H:=H) P).field=fieldD P)∧((dOps (H:=H) P).indexAddr=indexAddrD P)∧((dOps (H:=H) P).index=indexD P)∧((dOps (H:=H) P).extract=extractD)∧((dOps (H:=H) P).lookup=lookupD P)∧((dOps (H:=H) P).mapUpdate=mapUpdateD P)∧((dOps (H:=H) P).makeSlice=makeSliceD P)∧((dOps (H:=H) P).makeMap=makeMapO P)∧((dOps (H:=H) P).mapEntry=mapEntryD P)∧((dOps (H:=H) P).entryStore=entryStoreD)∧((dOps (H:=H) P).delete=deleteD P)∧((dOps (H:=H) P).len=lenOfD P)∧((dOps (H:=H) P).append=appD P)∧((dOps (H:=H) P).minO=minD P)∧((dOps (H:=H) P).maxO=maxD P)∧((dOps (H:=H) P).tgt=tgtD):=⟨oa,ob,oc,od,oe,of,og,oh,oi,oj,ok,ol,om,on,oo,op,oq,or,os,ot,ou,ov,ow,ox,oy,oz,oA,oB,oC⟩
end short
structure SA {G:Nat→Option (Array Value)} (A:Ann (FG G)):Prop where
 i:∀ f,211≤f→f≤227→A.i f=none
 c:∀ f,211≤f→f≤227→A.cut f=none
 r:∀ f,211≤f→f≤227→A.row f=false
section
variable {G:Nat→Option (Array Value)} {A:Ann (FG G)}
abbrev I (a:Int):Value:=.int .i64 a
abbrev U (a:Int):Value:=.int .u64 a
abbrev pt (id o:Nat):Value:=.pointer (some ⟨id,o,none⟩)
def rowU (l:List Nat):List Value:=l.map fun x:Nat=>U (x:Int)
theorem rowU_len (l:List Nat):(rowU l).length=l.length:=by unfold rowU; rw [List.length_map]
abbrev sU (id n:Nat) (c:Nat):Value:=.slice (some ⟨id,0,none⟩) n c
theorem ixU {id n c i:Nat} (hi:i<n):indexAddrD prog 67 (sU id n c) (I (i:Int))=some (pt id i):=by
 have h0:decide ((0:Int)≤(i:Int))=true:=decide_eq_true (by omega)
 have h1:decide ((i:Int)<(n:Int))=true:=decide_eq_true (by omega)
 simp only [indexAddrD,u67,z70,bindS,h0,h1,Bool.and_self,condT]
 rw [Int.toNat_natCast,Nat.mul_one,Nat.zero_add]
theorem ldU {s:St (FG G)} {id i:Nat} {l:List Nat} (h:(FG G).get s.h id=some (.row (rowU l))) (hi:i<l.length):loadD prog s 70 (pt id i)=some (U (l[i]:Int)):=by
 rw [load_row h,part_one a70]
 unfold rowU
 simp [hi]
theorem stU {s:St (FG G)} {id i x:Nat} {l:List Nat} (h:(FG G).get s.h id=some (.row (rowU l))) (hi:i<l.length):storeD prog s 70 (pt id i) (U (x:Int))=some (putD s id (.row (rowU (l.set i x)))):=by
 rw [store_row (l:=[U (x:Int)]) z70 h rfl rfl rfl (by rw [rowU_len]; omega)]
 congr 3
 unfold splice rowU
 rw [← List.map_take,← List.map_drop,← List.map_singleton (f:=fun x:Nat=>U (x:Int)),← List.map_append,← List.map_append]
 congr 1
 rw [List.set_eq_take_append_cons_drop,if_pos hi]
 rfl
theorem c226 (h:SA A) {n:Nat} {s:St (FG G)} (a:Int):callD prog A (n+1) (.fn 226) [U a] s=some [(.bool false,s)]:=by
 rw [call_fn (fn:=Try.f226) (h.i _ (by decide) (by decide)) (h.c _ (by decide) (by decide)) (by kernel_rfl),h.r _ (by decide) (by decide),f226_r]
 simp only [f226,oO,bindS,many1,jnE,boolS,gdB,fst',snd',b_neq,decide_true,Bool.not_true]
theorem c220 (h:SA A) {n:Nat} {s:St (FG G)} (a b:Nat):callD prog A (n+2) (.fn 220) [U (a:Int),U (b:Int)] s=some [(.bool (decide (a<b)),s)]:=by
 rw [call_fn (fn:=Try.f220) (h.i _ (by decide) (by decide)) (h.c _ (by decide) (by decide)) (by kernel_rfl),h.r _ (by decide) (by decide),f220_r]
 have e:decide ((a:Int)<(b:Int))=decide (a<b):=by
  by_cases h:a<b
  · rw [decide_eq_true h,decide_eq_true (by omega)]
  · rw [decide_eq_false h,decide_eq_false (by omega)]
 simp only [f220,oO,bindS,many1,jnE,boolS,gdB,fst',snd',c226 h (n:=n),condF,bop_lss,e]
end
end Go.Proofs.Ytmhmbmogodofeaa.S
namespace Go.Proofs.Ytmhmbmogodofeaa.S
open Go.FS Go.RowKit
open Go.Proofs.Try (prog)
attribute [local congr] bind_cg cond_cg gd_cg
open Go.FS.Q
def Hole (a j i:Nat) (l:List Nat):Prop:=(∀ (p q:Nat) (_:a≤p) (_:p≤q) (_:q≤i) (_:p≠j) (_:q≠j) (hp:p<l.length) (hq:q<l.length),l[p]≤l[q])∧∀ (q:Nat) (_:j<q) (_:q≤i) (hj:j<l.length) (hq:q<l.length),l[j]≤l[q]
theorem hole_start {a i:Nat} {l:List Nat} (h:SortIn a i l):Hole a i i l :=
 ⟨fun p q h1 h2 h3 h4 h5 hp hq=>h p q h1 h2 (by omega) hp hq,fun q h1 h2 _ _=>by omega⟩
theorem hole_end {a j i:Nat} {l:List Nat} (h:Hole a j i l) (hj:j<l.length) (hs:j≤a∨∃ h':j-1<l.length,l[j-1]≤l[j]):SortIn a (i+1) l:=by
 intro p q h1 h2 h3 hp hq
 by_cases ep:p=j
 · by_cases eq:q=j
   · subst ep; subst eq; exact Nat.le_refl _
   · subst ep; exact h.2 q (by omega) (by omega) hj hq
 · by_cases eq:q=j
   · subst eq
     rcases hs with hs | ⟨h',hs⟩
     · omega
     · by_cases e:p=q-1
       · subst e; exact hs
       · exact Nat.le_trans (h.1 p (q-1) h1 (by omega) (by omega) ep (by omega) hp h') hs
   · exact h.1 p q h1 h2 (by omega) ep eq hp hq
theorem hole_swap {a j i:Nat} {l:List Nat} (h:Hole a j i l) (haj:a<j) (hji:j≤i) (hi:i<l.length) (hj:j<l.length) (hj1:j-1<l.length) (hlt:l[j]<l[j-1]):Hole a (j-1) i (swapL l j (j-1) hj hj1):=by
 have e:=fun k hk=>swapL_get l j (j-1) k hj hj1 hk
 refine ⟨fun p q h1 h2 h3 h4 h5 hp hq=>?_,fun q h1 h2 _ hq=>?_⟩
 · rw [swapL_len] at hp hq
   rw [e p hp,e q hq,if_neg h4,if_neg h5]
   by_cases ep:p=j
   · rw [if_pos ep]
     by_cases eq:q=j
     · rw [if_pos eq]; exact Nat.le_refl _
     · rw [if_neg eq]; exact h.1 (j-1) q (by omega) (by omega) h3 (by omega) eq hj1 hq
   · rw [if_neg ep]
     by_cases eq:q=j
     · rw [if_pos eq]; exact h.1 p (j-1) h1 (by omega) (by omega) ep (by omega) hp hj1
     · rw [if_neg eq]; exact h.1 p q h1 h2 h3 ep eq hp hq
 · rw [swapL_len] at hq
   rw [e (j-1) hj1,e q hq,if_pos rfl,if_neg (show ¬ q=j-1 by omega)]
   by_cases eq:q=j
   · rw [if_pos eq]; omega
   · rw [if_neg eq]; exact h.2 q (by omega) h2 hj hq
section
variable {G:Nat→Option (Array Value)} {A:Ann (FG G)}
theorem c214 (h:SA A) (hN:A.N=2^64) {n id c a b:Nat} {s:St (FG G)} {l:List Nat} (g:(FG G).get s.h id=some (.row (rowU l))) (hab:a≤b) (hb:b≤l.length) (hl:l.length<2^40) :
 ∃ m,PermIn a b l m∧SortIn a b m∧callD prog A (n+3) (.fn 214) [sU id l.length c,I (a:Int),I (b:Int)] s=some [(.tuple #[],putD s id (.row (rowU m)))]:=by
 rw [call_fn (fn:=Try.f214) (h.i _ (by decide) (by decide)) (h.c _ (by decide) (by decide)) (by kernel_rfl),h.r _ (by decide) (by decide)]
 suffices hh:One (bodyD prog false (callD prog A (n+2)) A.N 214 Try.f214 [sU id l.length c,I (a:Int),I (b:Int)] s) fun v s'=>v=.tuple #[]∧∃ m,PermIn a b l m∧SortIn a b m∧s'=putD s id (.row (rowU m)) by
  obtain ⟨v,s',e,rfl,m,h1,h2,rfl⟩:=hh
  exact ⟨m,h1,h2,e⟩
 rw [f214_r,hN]
 have w1:IntKind.i64.wrap ((a:Int)+1)=((a+1:Nat):Int):=by rw [wrap_i64 (by omega) (by omega)]; rfl
 simp only [f214,oO,bindS,many1,jnE,boolS,gdB,fst',snd',bop_add,w1]
 refine list_one (List.replicate (b-(a+1)) ()) (fun k (z:Value×Value) (s':St (FG G))=>z.1=I ((a+1+k:Nat):Int)∧∃ m,PermIn a b l m∧SortIn a (a+1+k) m∧s'=putD s id (.row (rowU m))) ?_ ?_ ⟨rfl,l,.refl _ _ _,fun i j h1 h2 h3 hi hj=>?_,(put_same g).symm⟩ (by rw [List.length_replicate]; omega)
 · rintro k hk ⟨z1,z2⟩ s' ⟨e1,m,hP,hS,rfl⟩ nx hnx
   rw [List.length_replicate] at hk
   simp only at e1
   subst e1
   have hlt:((a+1+k:Nat):Int)<(b:Int):=by omega
   have w2:IntKind.i64.wrap (((a+1+k:Nat):Int)+1)=((a+1+(k+1):Nat):Int):=by rw [wrap_i64 (by omega) (by omega)]; omega
   have hml:=hP.len
   simp only [f214_l0,oO,bindS,many1,jnE,boolS,gdB,fst',snd',bop_lss,hlt,decide_true,condT]
   generalize hi:a+1+k=i at *
   refine list_one (List.replicate (i-a) ()) (fun t (x:Value) (s':St (FG G))=>x=I ((i-t:Nat):Int)∧∃ m,PermIn a b l m∧Hole a (i-t) i m∧s'=putD s id (.row (rowU m))) ?_ ?_ ⟨rfl,m,hP,hole_start hS,rfl⟩ (by rw [List.length_replicate]; omega)
   · rintro t ht x s' ⟨rfl,m,hP,hH,rfl⟩ nx2 hnx2
     rw [List.length_replicate] at ht
     have hml:=hP.len
     have hgt:((i-t:Nat):Int)>(a:Int):=by omega
     have w3:IntKind.i64.wrap (((i-t:Nat):Int)-1)=((i-t-1:Nat):Int):=by rw [wrap_i64 (by omega) (by omega)]; omega
     have hj:i-t<m.length:=by omega
     have hj1:i-t-1<m.length:=by omega
     have g1:(FG G).get (putD s id (.row (rowU m))).h id=some (.row (rowU m)):=get_put_same _
     have ix1:indexAddrD prog 67 (sU id l.length c) (I ((i-t:Nat):Int))=some (pt id (i-t)):=ixU (by omega)
     have ix2:indexAddrD prog 67 (sU id l.length c) (I ((i-t-1:Nat):Int))=some (pt id (i-t-1)):=ixU (by omega)
     have l1:=ldU g1 hj
     have l2:=ldU g1 hj1
     have e220:=oneS (c220 h (n:=n) (s:=putD s id (.row (rowU m))) m[i-t] m[i-t-1])
     by_cases hc:m[i-t]<m[i-t-1]
     · rw [decide_eq_true hc] at e220
       have s1:=stU (x:=m[i-t-1]) g1 hj
       rw [put_put] at s1
       have g2:(FG G).get (putD s id (.row (rowU (m.set (i-t) m[i-t-1])))).h id=some (.row (rowU (m.set (i-t) m[i-t-1]))):=get_put_same _
       have s2:=stU (x:=m[i-t]) g2 (i:=i-t-1) (by rw [List.length_set]; exact hj1)
       rw [put_put] at s2
       simp only [f214_l1,oO,bindS,many1,jnE,boolS,gdB,fst',snd',bop_gtr,hgt,decide_true,condT,ix1,ix2,l1,l2,b_sub,w3,e220,s1,s2]
       exact hnx2 _ _ ⟨by rw [Nat.sub_add_eq],_,hP.trans (PermIn.swap m hj hj1 (by omega) (by omega) (by omega) (by omega)),by rw [Nat.sub_add_eq]; exact hole_swap hH (by omega) (by omega) (by omega) hj hj1 hc,rfl⟩
     · rw [decide_eq_false hc] at e220
       simp only [f214_l1,oO,bindS,many1,jnE,boolS,gdB,fst',snd',bop_gtr,hgt,decide_true,condT,ix1,ix2,l1,l2,b_sub,w3,e220,condF,beq_yes,bop_add,w2]
       refine hnx (_,_) _ ⟨rfl,m,hP,?_,rfl⟩
       have:=hole_end hH hj (.inr ⟨hj1,by omega⟩)
       rw [← hi] at this
       exact this
   · rintro x s' ⟨rfl,m,hP,hH,rfl⟩ nx2
     rw [List.length_replicate] at hH ⊢
     have hml:=hP.len
     have hja:i-(i-a)=a:=by omega
     rw [hja] at hH ⊢
     have hgt:¬ (a:Int)>(a:Int):=by omega
     simp only [f214_l1,oO,bindS,many1,jnE,boolS,gdB,fst',snd',bop_gtr,hgt,decide_false,condF,beq_yes,condT,bop_add,w2]
     refine hnx (_,_) _ ⟨rfl,m,hP,?_,rfl⟩
     have:=hole_end hH (by omega) (.inl (Nat.le_refl _))
     rw [← hi] at this
     exact this
 · rintro ⟨z1,z2⟩ s' ⟨e1,m,hP,hS,rfl⟩ nx
   rw [List.length_replicate] at e1 hS
   simp only at e1
   subst e1
   have hnlt:¬ ((a+1+(b-(a+1)):Nat):Int)<(b:Int):=by omega
   simp only [f214_l0,oO,bindS,many1,jnE,boolS,gdB,fst',snd',bop_lss,hnlt,decide_false,condF,beq_yes,condT]
   exact One.ret ⟨rfl,m,hP,fun i j h1 h2 h3 hi hj=>hS i j h1 h2 (by omega) hi hj,rfl⟩
 · have:i=j:=by omega
   subst this
   exact Nat.le_refl _
end
end Go.Proofs.Ytmhmbmogodofeaa.S
namespace Go.Proofs.Ytmhmbmogodofeaa.S
open Go.FS Go.RowKit
open Go.Proofs.Try (prog)
attribute [local congr] bind_cg cond_cg gd_cg
open Go.FS.Q
section
variable {G:Nat→Option (Array Value)} {A:Ann (FG G)}
theorem sw2 {s:St (FG G)} {id i j:Nat} {m:List Nat} (hi:i<m.length) (hj:j<m.length) :
 storeD prog (putD s id (.row (rowU m))) 70 (pt id i) (U (m[j]:Int))=some (putD s id (.row (rowU (m.set i m[j]))))∧storeD prog (putD s id (.row (rowU (m.set i m[j])))) 70 (pt id j) (U (m[i]:Int))=some (putD s id (.row (rowU (swapL m i j hi hj)))):=by
 have s1:=stU (s:=putD s id (.row (rowU m))) (x:=m[j]) (get_put_same _) hi
 have s2:=stU (s:=putD s id (.row (rowU (m.set i m[j])))) (x:=m[i]) (i:=j) (get_put_same _) (by rw [List.length_set]; exact hj)
 rw [put_put] at s1 s2
 exact ⟨s1,s2⟩
theorem c218 (h:SA A) (hN:A.N=2^64) {n id c a b:Nat} {s:St (FG G)} {l:List Nat} (g:(FG G).get s.h id=some (.row (rowU l))) (hab:a≤b) (hb:b≤l.length) (hl:l.length<2^40) :
 ∃ m,PermIn a b l m∧callD prog A (n+1) (.fn 218) [sU id l.length c,I (a:Int),I (b:Int)] s=some [(.tuple #[],putD s id (.row (rowU m)))]:=by
 rw [call_fn (fn:=Try.f218) (h.i _ (by decide) (by decide)) (h.c _ (by decide) (by decide)) (by kernel_rfl),h.r _ (by decide) (by decide)]
 suffices hh:One (bodyD prog false (callD prog A n) A.N 218 Try.f218 [sU id l.length c,I (a:Int),I (b:Int)] s) fun v s'=>v=.tuple #[]∧∃ m,PermIn a b l m∧s'=putD s id (.row (rowU m)) by
  obtain ⟨v,s',e,rfl,m,h1,rfl⟩:=hh
  exact ⟨m,h1,e⟩
 rw [f218_r,hN]
 have w1:IntKind.i64.wrap ((b:Int)-1)=(b:Int)-1-(0:Nat):=by rw [wrap_i64 (by omega) (by omega)]; omega
 simp only [f218,oO,bindS,many1,jnE,boolS,gdB,fst',snd',b_sub,w1]
 refine list_one (List.replicate ((b-a) / 2) ()) (fun k (z:Value×Value) (s':St (FG G))=>z.1=I ((a+k:Nat):Int)∧z.2=I ((b:Int)-1-(k:Nat))∧∃ m,PermIn a b l m∧s'=putD s id (.row (rowU m))) ?_ ?_ ⟨rfl,rfl,l,.refl _ _ _,(put_same g).symm⟩ (by rw [List.length_replicate]; omega)
 · rintro k hk ⟨z1,z2⟩ s' ⟨e1,e2,m,hP,rfl⟩ nx hnx
   rw [List.length_replicate] at hk
   simp only at e1 e2
   rw [show (b:Int)-1-(k:Nat)=((b-1-k:Nat):Int) from by omega] at e2
   subst e1 e2
   have hml:=hP.len
   have hlt:((a+k:Nat):Int)<((b-1-k:Nat):Int):=by omega
   have hi:a+k<m.length:=by omega
   have hj:b-1-k<m.length:=by omega
   have g1:(FG G).get (putD s id (.row (rowU m))).h id=some (.row (rowU m)):=get_put_same _
   have ix1:indexAddrD prog 67 (sU id l.length c) (I ((a+k:Nat):Int))=some (pt id (a+k)):=ixU (by omega)
   have ix2:indexAddrD prog 67 (sU id l.length c) (I ((b-1-k:Nat):Int))=some (pt id (b-1-k)):=ixU (by omega)
   obtain ⟨s1,s2⟩:=sw2 (s:=s) (id:=id) hi hj
   have w2:IntKind.i64.wrap (((a+k:Nat):Int)+1)=((a+(k+1):Nat):Int):=by rw [wrap_i64 (by omega) (by omega)]; omega
   have w3:IntKind.i64.wrap (((b-1-k:Nat):Int)-1)=(b:Int)-1-((k+1:Nat):Int):=by rw [wrap_i64 (by omega) (by omega)]; omega
   simp only [f218_l0,oO,bindS,many1,jnE,boolS,gdB,fst',snd',bop_lss,hlt,decide_true,condT,ix1,ix2,ldU g1 hi,ldU g1 hj,s1,s2,bop_add,w2,b_sub,w3]
   exact hnx (_,_) _ ⟨rfl,rfl,_,hP.trans (PermIn.swap m hi hj (by omega) (by omega) (by omega) (by omega)),rfl⟩
 · rintro ⟨z1,z2⟩ s' ⟨e1,e2,m,hP,rfl⟩ nx
   rw [List.length_replicate] at e1 e2
   simp only at e1 e2
   subst e1 e2
   have hnlt:¬ ((a+(b-a) / 2:Nat):Int)<(b:Int)-1-((b-a) / 2:Nat):=by omega
   simp only [f218_l0,oO,bindS,many1,jnE,boolS,gdB,fst',snd',bop_lss,hnlt,decide_false,condF,beq_yes,condT]
   exact One.ret ⟨rfl,m,hP,rfl⟩
end
end Go.Proofs.Ytmhmbmogodofeaa.S
namespace Go.Proofs.Ytmhmbmogodofeaa.S
open Go.FS Go.RowKit
open Go.Proofs.Try (prog)
attribute [local congr] bind_cg cond_cg gd_cg
open Go.FS.Q
section
variable {G:Nat→Option (Array Value)} {A:Ann (FG G)}
theorem ldc {s:St (FG G)} {pid w:Nat} (h:(FG G).get s.h pid=some (.row [I (w:Int)])):loadD prog s 3 (pt pid 0)=some (I (w:Int)):=by rw [load_row h,part_one a3]; rfl
theorem stc {s:St (FG G)} {pid w w':Nat} (h:(FG G).get s.h pid=some (.row [I (w:Int)])):storeD prog s 3 (pt pid 0) (I (w':Int))=some (putD s pid (.row [I (w':Int)])):=by
 rw [store_row (l:=[I (w':Int)]) z3 h rfl rfl rfl (Nat.le_refl 1)]; rfl
theorem c227 (h:SA A) {n id c pid i j w:Nat} {s:St (FG G)} {l:List Nat} (g:(FG G).get s.h id=some (.row (rowU l))) (g2:(FG G).get s.h pid=some (.row [I (w:Int)])) (hi:i<l.length) (hj:j<l.length) (hw:w<2^40) :
 ∃ x y w',callD prog A (n+3) (.fn 227) [sU id l.length c,I (i:Int),I (j:Int),pt pid 0] s=some [(.tuple #[I (x:Nat),I (y:Nat)],putD s pid (.row [I (w':Nat)]))]∧(x=i∧y=j∨x=j∧y=i)∧w'≤w+1:=by
 rw [call_fn (fn:=Try.f227) (h.i _ (by decide) (by decide)) (h.c _ (by decide) (by decide)) (by kernel_rfl),h.r _ (by decide) (by decide),f227_r]
 have ix1:indexAddrD prog 67 (sU id l.length c) (I (i:Int))=some (pt id i):=ixU hi
 have ix2:indexAddrD prog 67 (sU id l.length c) (I (j:Int))=some (pt id j):=ixU hj
 have e220:=oneS (c220 h (n:=n) (s:=s) l[j] l[i])
 have nil:nilCheckD (pt pid 0)=some (pt pid 0):=rfl
 have w1:IntKind.i64.wrap ((w:Int)+1)=((w+1:Nat):Int):=by rw [wrap_i64 (by omega) (by omega)]; rfl
 by_cases hc:l[j]<l[i]
 · rw [decide_eq_true hc] at e220
   refine ⟨j,i,w+1,?_,.inr ⟨rfl,rfl⟩,Nat.le_refl _⟩
   simp only [f227,oO,bindS,many1,jnE,boolS,gdB,fst',snd',ix1,ix2,ldU g hi,ldU g hj,e220,condT,nil,ldc g2,bop_add,w1,stc g2]
 · rw [decide_eq_false hc] at e220
   refine ⟨i,j,w,?_,.inl ⟨rfl,rfl⟩,Nat.le_succ _⟩
   simp only [f227,oO,bindS,many1,jnE,boolS,gdB,fst',snd',ix1,ix2,ldU g hi,ldU g hj,e220,condF,put_same g2]
theorem xt2 (a b:Value):extractD (.tuple #[a,b]) 0=some a∧extractD (.tuple #[a,b]) 1=some b:=by cases a <;> exact ⟨rfl,rfl⟩
theorem c225 (h:SA A) {n id c pid i j k w:Nat} {s:St (FG G)} {l:List Nat} (g:(FG G).get s.h id=some (.row (rowU l))) (hne:id≠pid) (g2:(FG G).get s.h pid=some (.row [I (w:Int)])) (hi:i<l.length) (hj:j<l.length) (hk:k<l.length) (hw:w<2^30) :
 ∃ x w',callD prog A (n+4) (.fn 225) [sU id l.length c,I (i:Int),I (j:Int),I (k:Int),pt pid 0] s=some [(I (x:Nat),putD s pid (.row [I (w':Nat)]))]∧(x=i∨x=j∨x=k)∧w'≤w+3:=by
 rw [call_fn (fn:=Try.f225) (h.i _ (by decide) (by decide)) (h.c _ (by decide) (by decide)) (by kernel_rfl),h.r _ (by decide) (by decide),f225_r]
 have keep:∀ (t:St (FG G)) (w':Nat),(FG G).get t.h id=some (.row (rowU l))→(FG G).get (putD t pid (.row [I (w':Int)])).h id=some (.row (rowU l)):=fun t w' ht=>by rw [get_put_other hne]; exact ht
 obtain ⟨x1,y1,w1,e1,o1,b1⟩:=c227 h (n:=n) (c:=c) g g2 hi hj (by omega)
 have hx1:x1<l.length:=by omega
 have hy1:y1<l.length:=by omega
 obtain ⟨x2,y2,w2,e2,o2,b2⟩:=c227 h (n:=n) (c:=c) (s:=putD s pid (.row [I (w1:Int)])) (keep _ _ g) (get_put_same _) hy1 hk (by omega)
 have hx2:x2<l.length:=by omega
 rw [put_put] at e2
 obtain ⟨x3,y3,w3,e3,o3,b3⟩:=c227 h (n:=n) (c:=c) (s:=putD s pid (.row [I (w2:Int)])) (keep _ _ g) (get_put_same _) hx1 hx2 (by omega)
 rw [put_put] at e3
 refine ⟨y3,w3,?_,by omega,by omega⟩
 simp only [f225,oO,bindS,many1,jnE,boolS,gdB,fst',snd',e1,xt2,e2,e3]
theorem c224 (h:SA A) {n id c pid i w:Nat} {s:St (FG G)} {l:List Nat} (g:(FG G).get s.h id=some (.row (rowU l))) (hne:id≠pid) (g2:(FG G).get s.h pid=some (.row [I (w:Int)])) (hi:1≤i) (hi1:i+1<l.length) (hl:l.length<2^40) (hw:w<2^30) :
 ∃ x w',callD prog A (n+5) (.fn 224) [sU id l.length c,I (i:Int),pt pid 0] s=some [(I (x:Nat),putD s pid (.row [I (w':Nat)]))]∧(i-1≤x∧x≤i+1)∧w'≤w+3:=by
 rw [call_fn (fn:=Try.f224) (h.i _ (by decide) (by decide)) (h.c _ (by decide) (by decide)) (by kernel_rfl),h.r _ (by decide) (by decide),f224_r]
 have v1:IntKind.i64.wrap ((i:Int)-1)=((i-1:Nat):Int):=by rw [wrap_i64 (by omega) (by omega)]; omega
 have v2:IntKind.i64.wrap ((i:Int)+1)=((i+1:Nat):Int):=by rw [wrap_i64 (by omega) (by omega)]; rfl
 obtain ⟨x,w',e,o,b⟩:=c225 h (n:=n) (c:=c) (i:=i-1) (j:=i) (k:=i+1) g hne g2 (by omega) (by omega) hi1 hw
 refine ⟨x,w',?_,by omega,b⟩
 simp only [f224,oO,bindS,many1,jnE,boolS,gdB,fst',snd',b_sub,v1,bop_add,v2,e]
end
end Go.Proofs.Ytmhmbmogodofeaa.S
namespace Go.Proofs.Ytmhmbmogodofeaa.S
open Go.FS Go.RowKit
open Go.Proofs.Try (prog)
attribute [local congr] bind_cg cond_cg gd_cg
open Go.FS.Q
section
variable {G:Nat→Option (Array Value)} {A:Ann (FG G)}
theorem c217 (h:SA A) {n id c a b:Nat} {s:St (FG G)} {l:List Nat} (g:(FG G).get s.h id=some (.row (rowU l))) (hid:id<s.n) (hab:a<b) (hb:b≤l.length) (hl:l.length<2^40) :
 ∃ p hint s',callD prog A (n+6) (.fn 217) [sU id l.length c,I (a:Int),I (b:Int)] s=some [(.tuple #[I (p:Nat),I hint],s')]∧a≤p∧p<b∧Ext s s':=by
 rw [call_fn (fn:=Try.f217) (h.i _ (by decide) (by decide)) (h.c _ (by decide) (by decide)) (by kernel_rfl),h.r _ (by decide) (by decide)]
 suffices hh:One (bodyD prog false (callD prog A (n+5)) A.N 217 Try.f217 [sU id l.length c,I (a:Int),I (b:Int)] s) fun v s'=>∃ (p:Nat) (hint:Int),v=.tuple #[I (p:Nat),I hint]∧a≤p∧p<b∧Ext s s' by
  obtain ⟨v,s',e,p,hint,rfl,h1,h2,h3⟩:=hh
  exact ⟨p,hint,s',e,h1,h2,h3⟩
 rw [f217_r]
 have al:allocD prog s 3=some (pt s.n 0,newD s (.row [I 0])):=alloc_at zr3
 have w1:IntKind.i64.wrap ((b:Int)-(a:Int))=((b-a:Nat):Int):=by rw [wrap_i64 (by omega) (by omega)]; omega
 have q4:Int.tdiv ((b-a:Nat):Int) 4=(((b-a) / 4:Nat):Int):=rfl
 have hq:4*((b-a) / 4)≤b-a:=by omega
 generalize hd:(b-a) / 4=d at *
 have w2:IntKind.i64.wrap (d:Int)=(d:Int):=wrap_i64 (by omega) (by omega)
 have m1:IntKind.i64.wrap ((d:Int)*1)=(d:Int):=by rw [wrap_i64 (by omega) (by omega)]; omega
 have m2:IntKind.i64.wrap ((d:Int)*2)=((d*2:Nat):Int):=by rw [wrap_i64 (by omega) (by omega)]; omega
 have m3:IntKind.i64.wrap ((d:Int)*3)=((d*3:Nat):Int):=by rw [wrap_i64 (by omega) (by omega)]; omega
 have a1:IntKind.i64.wrap ((a:Int)+(d:Int))=((a+d:Nat):Int):=by rw [wrap_i64 (by omega) (by omega)]; omega
 have a2:IntKind.i64.wrap ((a:Int)+((d*2:Nat):Int))=((a+d*2:Nat):Int):=by rw [wrap_i64 (by omega) (by omega)]; omega
 have a3':IntKind.i64.wrap ((a:Int)+((d*3:Nat):Int))=((a+d*3:Nat):Int):=by rw [wrap_i64 (by omega) (by omega)]; omega
 have keep:∀ w:Nat,(FG G).get (putD (newD s (.row [I 0])) s.n (.row [I (w:Int)])).h id=some (.row (rowU l))∧(FG G).get (putD (newD s (.row [I 0])) s.n (.row [I (w:Int)])).h s.n=some (.row [I (w:Int)])∧Ext s (putD (newD s (.row [I 0])) s.n (.row [I (w:Int)])):=fun w =>
  ⟨by rw [get_put_other (by omega),get_old (by omega)]; exact g,get_put_same _,((Ext.refl s).new _).put (Nat.le_refl _) _⟩
 have g0:(FG G).get (newD s (.row [I 0])).h id=some (.row (rowU l)):=by rw [get_old (by omega)]; exact g
 have p0:(FG G).get (newD s (.row [I 0])).h s.n=some (.row [I ((0:Nat):Int)]):=get_n0 s _
 by_cases h8:8≤b-a
 · have h8':((b-a:Nat):Int)≥8:=by omega
   by_cases h50:50≤b-a
   · have h50':((b-a:Nat):Int)≥50:=by omega
     obtain ⟨x1,v1,e1,o1,b1⟩:=c224 h (n:=n) (c:=c) (i:=a+d) g0 (by omega) p0 (by omega) (by omega) hl (by omega)
     obtain ⟨x2,v2,e2,o2,b2⟩:=c224 h (n:=n) (c:=c) (i:=a+d*2) (keep v1).1 (by omega) (keep v1).2.1 (by omega) (by omega) hl (by omega)
     rw [put_put] at e2
     obtain ⟨x3,v3,e3,o3,b3⟩:=c224 h (n:=n) (c:=c) (i:=a+d*3) (keep v2).1 (by omega) (keep v2).2.1 (by omega) (by omega) hl (by omega)
     rw [put_put] at e3
     obtain ⟨x4,v4,e4,o4,b4⟩:=c225 h (n:=n+1) (c:=c) (i:=x1) (j:=x2) (k:=x3) (keep v3).1 (by omega) (keep v3).2.1 (by omega) (by omega) (by omega) (by omega)
     rw [put_put] at e4
     have hx:a≤x4∧x4<b:=by omega
     simp only [f217,oO,bindS,many1,jnE,boolS,gdB,fst',snd',b_sub,w1,al,b_quo _ _ _ _ (show (4:Int)≠0 by decide),q4,w2,bop_mul,m1,m2,m3,bop_add,a1,a2,a3',bop_geq,h8',h50',decide_true,condT,e1,e2,e3,e4,ldc (keep v4).2.1,bop_eql]
     by_cases z0:(v4:Int)=0
     · rw [decide_eq_true z0]; simp only [boolS,condT,bindS]; exact One.ret ⟨x4,1,rfl,hx.1,hx.2,(keep v4).2.2⟩
     · rw [decide_eq_false z0]; simp only [boolS,condF,bindS]
       by_cases z1:(v4:Int)=12
       · rw [decide_eq_true z1]; simp only [boolS,condT,bindS]; exact One.ret ⟨x4,2,rfl,hx.1,hx.2,(keep v4).2.2⟩
       · rw [decide_eq_false z1]; simp only [boolS,condF,bindS]; exact One.ret ⟨x4,0,rfl,hx.1,hx.2,(keep v4).2.2⟩
   · have h50':¬ ((b-a:Nat):Int)≥50:=by omega
     obtain ⟨x4,v4,e4,o4,b4⟩:=c225 h (n:=n+1) (c:=c) (i:=a+d) (j:=a+d*2) (k:=a+d*3) g0 (by omega) p0 (by omega) (by omega) (by omega) (by omega)
     have hx:a≤x4∧x4<b:=by omega
     simp only [f217,oO,bindS,many1,jnE,boolS,gdB,fst',snd',b_sub,w1,al,b_quo _ _ _ _ (show (4:Int)≠0 by decide),q4,w2,bop_mul,m1,m2,m3,bop_add,a1,a2,a3',bop_geq,h8',h50',decide_true,decide_false,condT,condF,e4,ldc (keep v4).2.1,bop_eql]
     by_cases z0:(v4:Int)=0
     · rw [decide_eq_true z0]; simp only [boolS,condT,bindS]; exact One.ret ⟨x4,1,rfl,hx.1,hx.2,(keep v4).2.2⟩
     · rw [decide_eq_false z0]; simp only [boolS,condF,bindS]
       by_cases z1:(v4:Int)=12
       · rw [decide_eq_true z1]; simp only [boolS,condT,bindS]; exact One.ret ⟨x4,2,rfl,hx.1,hx.2,(keep v4).2.2⟩
       · rw [decide_eq_false z1]; simp only [boolS,condF,bindS]; exact One.ret ⟨x4,0,rfl,hx.1,hx.2,(keep v4).2.2⟩
 · have h8':¬ ((b-a:Nat):Int)≥8:=by omega
   have l0:loadD prog (newD s (.row [I 0])) 3 (pt s.n 0)=some (I 0):=ldc (w:=0) p0
   simp only [f217,oO,bindS,many1,jnE,boolS,gdB,fst',snd',b_sub,w1,al,b_quo _ _ _ _ (show (4:Int)≠0 by decide),q4,w2,bop_mul,m1,m2,m3,bop_add,a1,a2,a3',bop_geq,h8',decide_true,decide_false,condT,condF,l0,bop_eql]
   exact One.ret ⟨a+d*2,1,rfl,by omega,by omega,(Ext.refl s).new _⟩
end
end Go.Proofs.Ytmhmbmogodofeaa.S
namespace Go.Proofs.Ytmhmbmogodofeaa.S
open Go.FS Go.RowKit
open Go.Proofs.Try (prog)
attribute [local congr] bind_cg cond_cg gd_cg
open Go.FS.Q
theorem jn_rule {α β:Type} {r:α} {f:α→β} (P:α→Prop) (Q:β→Prop) (h1:P r) (h2:∀ k,P k→Q (f k)):Q (jn r f):=by rw [jnE]; exact h2 r h1
section
variable {G:Nat→Option (Array Value)} {A:Ann (FG G)}
theorem ldg {s:St (FG G)} {id i:Nat} {l:List Nat} (h:(FG G).get s.h id=some (.row (rowU l))) (hi:i<l.length):loadD prog s 70 (pt id i)=some (U (gt l i:Int)):=by
 rw [ldU h hi,gt_of hi]
theorem c223 (h:SA A) (hN:A.N=2^64) {n id c f lo hi:Nat} {s:St (FG G)} {l:List Nat} (g:(FG G).get s.h id=some (.row (rowU l))) (hX:HeapX (gt l) f lo hi lo) (hb:f+hi≤l.length) (hl:l.length<2^40) (hlo:lo<2^40) :
 ∃ m,PermIn (f+lo) (f+hi) l m∧HeapF (gt m) f lo hi∧callD prog A (n+3) (.fn 223) [sU id l.length c,I (lo:Int),I (hi:Int),I (f:Int)] s=some [(.tuple #[],putD s id (.row (rowU m)))]:=by
 rw [call_fn (fn:=Try.f223) (h.i _ (by decide) (by decide)) (h.c _ (by decide) (by decide)) (by kernel_rfl),h.r _ (by decide) (by decide)]
 suffices hh:One (bodyD prog false (callD prog A (n+2)) A.N 223 Try.f223 [sU id l.length c,I (lo:Int),I (hi:Int),I (f:Int)] s) fun v s'=>v=.tuple #[]∧∃ m,PermIn (f+lo) (f+hi) l m∧HeapF (gt m) f lo hi∧s'=putD s id (.row (rowU m)) by
  obtain ⟨v,s',e,rfl,m,h1,h2,rfl⟩:=hh
  exact ⟨m,h1,h2,e⟩
 rw [f223_r,hN]
 simp only [f223]
 refine loop_rule (fun d (z:Value×Value) (s':St (FG G))=>∃ r m,d=hi-r∧lo≤r∧r<2^40∧z.1=I ((r:Nat):Int)∧PermIn (f+lo) (f+hi) l m∧HeapX (gt m) f lo hi r∧s'=putD s id (.row (rowU m))) (fun R=>One R fun v s'=>v=.tuple #[]∧∃ m,PermIn (f+lo) (f+hi) l m∧HeapF (gt m) f lo hi∧s'=putD s id (.row (rowU m))) ?_ _ (hi-lo) _ _ ⟨lo,l,rfl,Nat.le_refl _,hlo,rfl,.refl _ _ _,hX,(put_same g).symm⟩ (by omega)
 rintro d ⟨z1,z2⟩ s' ⟨r,m,rfl,hr,hr2,e1,hP,hX,rfl⟩ nx hnx
 simp only at e1
 subst e1
 have hml:=hP.len
 have w1:IntKind.i64.wrap (2*(r:Int))=((2*r:Nat):Int):=by rw [wrap_i64 (by omega) (by omega)]; omega
 have w2:IntKind.i64.wrap (((2*r:Nat):Int)+1)=((2*r+1:Nat):Int):=by rw [wrap_i64 (by omega) (by omega)]; omega
 have w3:IntKind.i64.wrap (((2*r+1:Nat):Int)+1)=((2*r+2:Nat):Int):=by rw [wrap_i64 (by omega) (by omega)]; omega
 by_cases h1:2*r+1<hi
 · have ng:¬ (((2*r+1:Nat):Int)≥(hi:Int)):=by omega
   have w4:IntKind.i64.wrap ((f:Int)+((2*r+1:Nat):Int))=((f+(2*r+1):Nat):Int):=by rw [wrap_i64 (by omega) (by omega)]; omega
   have w5:IntKind.i64.wrap (((f+(2*r+1):Nat):Int)+1)=((f+(2*r+2):Nat):Int):=by rw [wrap_i64 (by omega) (by omega)]; omega
   have w6:IntKind.i64.wrap ((f:Int)+(r:Int))=((f+r:Nat):Int):=by rw [wrap_i64 (by omega) (by omega)]; omega
   have g1:(FG G).get (putD s id (.row (rowU m))).h id=some (.row (rowU m)):=get_put_same _
   have ix:∀ i,i<f+hi→indexAddrD prog 67 (sU id l.length c) (I ((i:Nat):Int))=some (pt id i):=fun i h=>ixU (by omega)
   have ld:∀ i,i<f+hi→loadD prog (putD s id (.row (rowU m))) 70 (pt id i)=some (U (gt m i:Int)):=fun i h=>ldg g1 (by omega)
   simp only [f223_l0,oO,bindS,many1,boolS,gdB,fst',snd',bop_mul,w1,bop_add,w2,bop_geq,ng,decide_false,condF]
   refine jn_rule (fun k=>∀ bv:Bool,(bv=true→2*r+2<hi∧gt m (f+(2*r+1))<gt m (f+(2*r+2)))→(bv=false→2*r+2<hi→gt m (f+(2*r+2))≤gt m (f+(2*r+1)))→One (k (.bool bv) (putD s id (.row (rowU m)))) fun v s'=>v=.tuple #[]∧∃ m,PermIn (f+lo) (f+hi) l m∧HeapF (gt m) f lo hi∧s'=putD s id (.row (rowU m))) (fun R=>One R fun v s'=>v=.tuple #[]∧∃ m,PermIn (f+lo) (f+hi) l m∧HeapF (gt m) f lo hi∧s'=putD s id (.row (rowU m))) ?_ ?_
   · intro bv hb1 hb2
     refine jn_rule (fun k=>∀ e:Nat,(e=2*r+1∨e=2*r+2)→e<hi→(∀ d,(d=2*r+1∨d=2*r+2)→d<hi→gt m (f+d)≤gt m (f+e))→One (k (I (e:Int))) fun v s'=>v=.tuple #[]∧∃ m,PermIn (f+lo) (f+hi) l m∧HeapF (gt m) f lo hi∧s'=putD s id (.row (rowU m))) (fun R=>One R fun v s'=>v=.tuple #[]∧∃ m,PermIn (f+lo) (f+hi) l m∧HeapF (gt m) f lo hi∧s'=putD s id (.row (rowU m))) ?_ ?_
     · intro e he he2 hmax
       have w7:IntKind.i64.wrap ((f:Int)+(e:Int))=((f+e:Nat):Int):=by rw [wrap_i64 (by omega) (by omega)]; omega
       have e220:=oneS (c220 h (n:=n) (s:=putD s id (.row (rowU m))) (gt m (f+r)) (gt m (f+e)))
       have ixr:=ix (f+r) (by omega)
       have ixe:=ix (f+e) (by omega)
       have ldr:=ld (f+r) (by omega)
       have lde:=ld (f+e) (by omega)
       have b1:f+r<m.length:=by omega
       have b2:f+e<m.length:=by omega
       by_cases hc:gt m (f+r)<gt m (f+e)
       · rw [decide_eq_true hc] at e220
         obtain ⟨s1,s2⟩:=sw2 (s:=s) (id:=id) b1 b2
         rw [gt_of b2] at s1 s2
         rw [gt_of b1] at s2
         simp only [oO,bindS,many1,jnE,boolS,gdB,fst',snd',bop_add,w6,w7,ixr,ixe,ldr,lde,e220,uop_not,Bool.not_true,condF,s1,s2]
         refine hnx (hi-e) (_,_) _ (by omega) ⟨e,_,rfl,by omega,by omega,rfl,hP.trans (PermIn.swap m b1 b2 (by omega) (by omega) (by omega) (by omega)),heapX_swap hX hr he he2 hc hmax fun k=>swapL_gt m _ _ k b1 b2,rfl⟩
       · rw [decide_eq_false hc] at e220
         simp only [oO,bindS,many1,jnE,boolS,gdB,fst',snd',bop_add,w6,w7,ixr,ixe,ldr,lde,e220,uop_not,Bool.not_false,condT]
         exact One.ret ⟨rfl,m,hP,heapX_end hX fun d hd hd2=>Nat.le_trans (hmax d hd hd2) (by omega),rfl⟩
     · intro k hk
       cases bv with
       | true =>
        obtain ⟨q1,q2⟩:=hb1 rfl
        simp only [oO,bindS,many1,jnE,boolS,gdB,fst',snd',bop_add,w3,condT]
        exact hk _ (.inr rfl) q1 fun d hd hd2=>by rcases hd with rfl | rfl <;> omega
       | false =>
        simp only [oO,bindS,many1,jnE,boolS,gdB,fst',snd',condF]
        exact hk _ (.inl rfl) h1 fun d hd hd2=>by
          rcases hd with rfl | rfl
          · exact Nat.le_refl _
          · exact hb2 rfl hd2
   · intro k hk
     by_cases h2:2*r+2<hi
     · have lt2:((2*r+2:Nat):Int)<(hi:Int):=by omega
       have e220:=oneS (c220 h (n:=n) (s:=putD s id (.row (rowU m))) (gt m (f+(2*r+1))) (gt m (f+(2*r+2))))
       simp only [oO,bindS,many1,jnE,boolS,gdB,fst',snd',bop_add,w3,bop_lss,lt2,decide_true,condT,w4,w5,ix (f+(2*r+1)) (by omega),ix (f+(2*r+2)) (by omega),ld (f+(2*r+1)) (by omega),ld (f+(2*r+2)) (by omega),e220]
       exact hk _ (fun e=>⟨h2,of_decide_eq_true e⟩) (fun e _=>by have:=of_decide_eq_false e; omega)
     · have lt2:¬ ((2*r+2:Nat):Int)<(hi:Int):=by omega
       simp only [oO,bindS,many1,jnE,boolS,gdB,fst',snd',bop_add,w3,bop_lss,lt2,decide_false,condF]
       exact hk _ (fun e=>by cases e) (fun _ e=>by omega)
 · have ng:((2*r+1:Nat):Int)≥(hi:Int):=by omega
   simp only [f223_l0,oO,bindS,many1,jnE,boolS,gdB,fst',snd',bop_mul,w1,bop_add,w2,bop_geq,ng,decide_true,condT,beq_yes]
   exact One.ret ⟨rfl,m,hP,heapX_end hX fun d hd hd2=>by omega,rfl⟩
theorem c215 (h:SA A) (hN:A.N=2^64) {n id c a b:Nat} {s:St (FG G)} {l:List Nat} (g:(FG G).get s.h id=some (.row (rowU l))) (hab:a<b) (hb:b≤l.length) (hl:l.length<2^40) :
 ∃ m,PermIn a b l m∧SortIn a b m∧callD prog A (n+4) (.fn 215) [sU id l.length c,I (a:Int),I (b:Int)] s=some [(.tuple #[],putD s id (.row (rowU m)))]:=by
 rw [call_fn (fn:=Try.f215) (h.i _ (by decide) (by decide)) (h.c _ (by decide) (by decide)) (by kernel_rfl),h.r _ (by decide) (by decide)]
 suffices hh:One (bodyD prog false (callD prog A (n+3)) A.N 215 Try.f215 [sU id l.length c,I (a:Int),I (b:Int)] s) fun v s'=>v=.tuple #[]∧∃ m,PermIn a b l m∧SortIn a b m∧s'=putD s id (.row (rowU m)) by
  obtain ⟨v,s',e,rfl,m,h1,h2,rfl⟩:=hh
  exact ⟨m,h1,h2,e⟩
 rw [f215_r,hN]
 obtain ⟨k,hk⟩:∃ k,k=b-a:=⟨_,rfl⟩
 have w1:IntKind.i64.wrap ((b:Int)-(a:Int))=((k:Nat):Int):=by rw [wrap_i64 (by omega) (by omega)]; omega
 have w2:IntKind.i64.wrap (((k:Nat):Int)-1)=((k-1:Nat):Int):=by rw [wrap_i64 (by omega) (by omega)]; omega
 have w3:IntKind.i64.wrap ((((k-1:Nat):Int)).tdiv 2)=(((k-1) / 2+1:Nat):Int)-1:=by
  rw [show (((k-1:Nat):Int)).tdiv 2=(((k-1) / 2:Nat):Int) from by rw [show (2:Int)=((2:Nat):Int) from rfl,← Int.ofNat_tdiv],wrap_i64 (by omega) (by omega)]; omega
 simp only [f215,oO,bindS,many1,jnE,boolS,gdB,fst',snd',b_sub,w1,w2,b_quo _ _ _ _ (show (2:Int)≠0 by decide),w3]
 obtain ⟨q,hq⟩:∃ q,q=(k-1) / 2+1:=⟨_,rfl⟩
 rw [← hq]
 have ix:∀ i,i<b→indexAddrD prog 67 (sU id l.length c) (I ((i:Nat):Int))=some (pt id i):=fun i h=>ixU (by omega)
 refine list_one (List.replicate q ()) (fun t (x:Value) (s':St (FG G))=>x=I (((q-t:Nat):Int)-1)∧∃ m,PermIn a b l m∧HeapF (gt m) a (q-t) k∧s'=putD s id (.row (rowU m))) ?_ ?_ ⟨rfl,l,.refl _ _ _,fun p d h1 h2 h3=>by omega,(put_same g).symm⟩ (by rw [List.length_replicate]; omega)
 · rintro t ht x s' ⟨rfl,m,hP,hH,rfl⟩ nx hnx
   rw [List.length_replicate] at ht
   have hml:=hP.len
   have w4:IntKind.i64.wrap (((q-t-1:Nat):Int)-1)=((q-(t+1):Nat):Int)-1:=by rw [wrap_i64 (by omega) (by omega)]; omega
   rw [show ((q-t:Nat):Int)-1=((q-t-1:Nat):Int) from by omega]
   have h0:((q-t-1:Nat):Int)≥0:=by omega
   have g1:(FG G).get (putD s id (.row (rowU m))).h id=some (.row (rowU m)):=get_put_same _
   obtain ⟨m2,k1,k2,e⟩:=c223 h hN (n:=n) (id:=id) (c:=c) (f:=a) (lo:=q-t-1) (hi:=k) g1 (heapX_start (by rw [show q-t-1+1=q-t from by omega]; exact hH)) (by omega) (by omega) (by omega)
   rw [hml,put_put] at e
   simp only [f215_l0,oO,bindS,many1,jnE,boolS,gdB,fst',snd',bop_geq,h0,decide_true,condT,e,b_sub,w4]
   refine hnx _ _ ⟨rfl,m2,hP.trans (k1.wide (by omega) (by omega)),?_,rfl⟩
   rw [show q-(t+1)=q-t-1 from by omega]; exact k2
 · rintro x s' ⟨rfl,m,hP,hH,rfl⟩ nx
   rw [List.length_replicate] at hH ⊢
   rw [Nat.sub_self] at hH
   have h0:¬ (((q-q:Nat):Int)-1≥0):=by omega
   simp only [f215_l0,oO,bindS,many1,jnE,boolS,gdB,fst',snd',bop_geq,h0,decide_false,condF,beq_yes,condT,b_sub,w2]
   rw [show ((k-1:Nat):Int)=((k-0:Nat):Int)-1 from by omega]
   refine list_one (List.replicate k ()) (fun t (x:Value) (s':St (FG G))=>x=I (((k-t:Nat):Int)-1)∧∃ m,PermIn a b l m∧Phase a b (k-t) m∧s'=putD s id (.row (rowU m))) ?_ ?_ ⟨rfl,m,hP,⟨hH,fun i j h1 h2 h3=>by omega,fun p q h1 h2 h3 h4=>by omega⟩,rfl⟩ (by rw [List.length_replicate]; omega)
   · rintro t ht x s' ⟨rfl,m,hP,hH,rfl⟩ nx2 hnx2
     rw [List.length_replicate] at ht
     have hml:=hP.len
     obtain ⟨i,hi⟩:∃ i,k-t=i+1:=⟨k-t-1,by omega⟩
     have hi2:k-(t+1)=i:=by omega
     rw [hi] at hH ⊢
     rw [show ((i+1:Nat):Int)-1=((i:Nat):Int) from by omega]
     have h0:((i:Nat):Int)≥0:=by omega
     have w4:IntKind.i64.wrap (((i:Nat):Int)-1)=((i:Nat):Int)-1:=by rw [wrap_i64 (by omega) (by omega)]
     have w5:IntKind.i64.wrap ((a:Int)+((i:Nat):Int))=((a+i:Nat):Int):=by rw [wrap_i64 (by omega) (by omega)]; omega
     have b1:a<m.length:=by omega
     have b2:a+i<m.length:=by omega
     have g1:(FG G).get (putD s id (.row (rowU m))).h id=some (.row (rowU m)):=get_put_same _
     obtain ⟨s1,s2⟩:=sw2 (s:=s) (id:=id) b1 b2
     rw [gt_of b2] at s1 s2
     rw [gt_of b1] at s2
     obtain ⟨m2,k1,k2,e⟩:=c223 h hN (n:=n) (id:=id) (c:=c) (f:=a) (lo:=0) (hi:=i) (l:=swapL m a (a+i) b1 b2) (s:=putD s id (.row (rowU (swapL m a (a+i) b1 b2)))) (get_put_same _) (phase_mid hH b1 b2) (by rw [swapL_len]; omega) (by rw [swapL_len]; omega) (by omega)
     rw [swapL_len,hml,put_put,show ((0:Nat):Int)=0 from rfl] at e
     rw [Nat.add_zero] at k1
     simp only [f215_l1,oO,bindS,many1,jnE,boolS,gdB,fst',snd',bop_geq,h0,decide_true,condT,bop_add,w5,ix (a+i) (by omega),ix a hab,ldg g1 b1,ldg g1 b2,s1,s2,e,b_sub,w4]
     exact hnx2 _ _ ⟨by rw [hi2],m2,(hP.trans (PermIn.swap m b1 b2 (by omega) (by omega) (by omega) (by omega))).trans (k1.wide (by omega) (by omega)),by rw [hi2]; exact phase_step hH (by omega) (by omega) b1 b2 k1 k2,rfl⟩
   · rintro x s' ⟨rfl,m,hP,hH,rfl⟩ nx2
     rw [List.length_replicate] at hH ⊢
     rw [Nat.sub_self] at hH
     have hml:=hP.len
     have h0:¬ (((k-k:Nat):Int)-1≥0):=by omega
     simp only [f215_l1,oO,bindS,many1,jnE,boolS,gdB,fst',snd',bop_geq,h0,decide_false,condF,beq_yes,condT]
     exact One.ret ⟨rfl,m,hP,(sortIn_iff (by omega)).2 fun i j h1 h2 h3=>hH.sort i j (by omega) h2 h3,rfl⟩
end
end Go.Proofs.Ytmhmbmogodofeaa.S
namespace Go.Proofs.Ytmhmbmogodofeaa.S
open Go.FS Go.RowKit
open Go.Proofs.Try (prog)
attribute [local congr] bind_cg cond_cg gd_cg
open Go.FS.Q
section
variable {G:Nat→Option (Array Value)} {A:Ann (FG G)}
theorem up0 (h:SA A) {n N id c a i j L:Nat} {s:St (FG G)} {m:List Nat} {kx:Nat→Value→St (FG G)→Option (List (Value×St (FG G)))} {kr:Value→St (FG G)→Option (List (Value×St (FG G)))} {Q:Value→St (FG G)→Prop} (g:(FG G).get s.h id=some (.row (rowU m))) (hL:m.length=L) (hj:j<L) (ha:a<L) (hl:L<2^40) (hij:i≤j+1)
 (hk:∀ i':Nat,i≤i'→i'≤j+1→(i'=j+1∨gt m a≤gt m i')→(∀ k,i≤k→k<i'→gt m k≤gt m a)→One (kx 0 (I (i':Int)) s) Q) :
 One (iterS (f222_l0 (dOps (H:=FG G) prog) (callD prog A (n+2)) N (sU id L c) (I (a:Int)) (I (j:Int))) kx kr (2^64) (I (i:Int)) s) Q:=by
 refine list_one (List.replicate (j+1-i) ()) (fun t (x:Value) (s':St (FG G))=>x=I ((i+t:Nat):Int)∧s'=s∧∀ k,i≤k→k<i+t→gt m k≤gt m a) ?_ ?_ ⟨rfl,rfl,fun k _ _=>by omega⟩ (by rw [List.length_replicate]; omega)
 · rintro t ht x s' ⟨rfl,rfl,hlo⟩ nx hnx
   rw [List.length_replicate] at ht
   have le:((i+t:Nat):Int)≤(j:Int):=by omega
   have w:IntKind.i64.wrap (((i+t:Nat):Int)+1)=((i+(t+1):Nat):Int):=by rw [wrap_i64 (by omega) (by omega)]; omega
   have ix1:indexAddrD prog 67 (sU id L c) (I ((i+t:Nat):Int))=some (pt id (i+t)):=ixU (by omega)
   have ix2:indexAddrD prog 67 (sU id L c) (I (a:Int))=some (pt id a):=ixU (by omega)
   have l1:=ldg g (i:=i+t) (by omega)
   have l2:=ldg g (i:=a) (by omega)
   have e:=oneS (c220 h (n:=n) (s:=s') (gt m (i+t)) (gt m a))
   by_cases hc:gt m (i+t)<gt m a
   · rw [decide_eq_true hc] at e
     simp only [f222_l0,oO,bindS,many1,jnE,boolS,gdB,fst',snd',bop_leq,le,decide_true,condT,ix1,ix2,l1,l2,e,bop_add,w]
     refine hnx _ _ ⟨rfl,rfl,fun k h1 h2=>?_⟩
     rcases (show k<i+t∨k=i+t by omega) with h3 | rfl
     · exact hlo _ h1 h3
     · omega
   · rw [decide_eq_false hc] at e
     simp only [f222_l0,oO,bindS,many1,jnE,boolS,gdB,fst',snd',bop_leq,le,decide_true,condT,condF,ix1,ix2,l1,l2,e,condF]
     exact hk (i+t) (by omega) (by omega) (.inr (by omega)) hlo
 · rintro x s' ⟨rfl,rfl,hlo⟩ nx
   rw [List.length_replicate] at hlo ⊢
   have le:¬ ((i+(j+1-i):Nat):Int)≤(j:Int):=by omega
   simp only [f222_l0,oO,bindS,many1,jnE,boolS,gdB,fst',snd',bop_leq,le,decide_false,condF]
   exact hk _ (by omega) (by omega) (.inl (by omega)) hlo
theorem up3 (h:SA A) {n N id c a i j L:Nat} {s:St (FG G)} {m:List Nat} {kx:Nat→Value→St (FG G)→Option (List (Value×St (FG G)))} {kr:Value→St (FG G)→Option (List (Value×St (FG G)))} {Q:Value→St (FG G)→Prop} {e:Value} (g:(FG G).get s.h id=some (.row (rowU m))) (hL:m.length=L) (hj:j<L) (ha:a<L) (hl:L<2^40) (hij:i≤j+1)
 (hk:∀ i':Nat,i≤i'→i'≤j+1→(i'=j+1∨gt m a≤gt m i')→(∀ k,i≤k→k<i'→gt m k≤gt m a)→One (kx 6 (I (i':Int)) s) Q) :
 One (iterS (f222_l3 (dOps (H:=FG G) prog) (callD prog A (n+2)) N (sU id L c) (I (a:Int)) (I (j:Int)) e) kx kr (2^64) (I (i:Int)) s) Q:=by
 refine list_one (List.replicate (j+1-i) ()) (fun t (x:Value) (s':St (FG G))=>x=I ((i+t:Nat):Int)∧s'=s∧∀ k,i≤k→k<i+t→gt m k≤gt m a) ?_ ?_ ⟨rfl,rfl,fun k _ _=>by omega⟩ (by rw [List.length_replicate]; omega)
 · rintro t ht x s' ⟨rfl,rfl,hlo⟩ nx hnx
   rw [List.length_replicate] at ht
   have le:((i+t:Nat):Int)≤(j:Int):=by omega
   have w:IntKind.i64.wrap (((i+t:Nat):Int)+1)=((i+(t+1):Nat):Int):=by rw [wrap_i64 (by omega) (by omega)]; omega
   have ix1:indexAddrD prog 67 (sU id L c) (I ((i+t:Nat):Int))=some (pt id (i+t)):=ixU (by omega)
   have ix2:indexAddrD prog 67 (sU id L c) (I (a:Int))=some (pt id a):=ixU (by omega)
   have l1:=ldg g (i:=i+t) (by omega)
   have l2:=ldg g (i:=a) (by omega)
   have e:=oneS (c220 h (n:=n) (s:=s') (gt m (i+t)) (gt m a))
   by_cases hc:gt m (i+t)<gt m a
   · rw [decide_eq_true hc] at e
     simp only [f222_l3,oO,bindS,many1,jnE,boolS,gdB,fst',snd',bop_leq,le,decide_true,condT,ix1,ix2,l1,l2,e,bop_add,w]
     refine hnx _ _ ⟨rfl,rfl,fun k h1 h2=>?_⟩
     rcases (show k<i+t∨k=i+t by omega) with h3 | rfl
     · exact hlo _ h1 h3
     · omega
   · rw [decide_eq_false hc] at e
     simp only [f222_l3,oO,bindS,many1,jnE,boolS,gdB,fst',snd',bop_leq,le,decide_true,condT,condF,ix1,ix2,l1,l2,e,condF]
     exact hk (i+t) (by omega) (by omega) (.inr (by omega)) hlo
 · rintro x s' ⟨rfl,rfl,hlo⟩ nx
   rw [List.length_replicate] at hlo ⊢
   have le:¬ ((i+(j+1-i):Nat):Int)≤(j:Int):=by omega
   simp only [f222_l3,oO,bindS,many1,jnE,boolS,gdB,fst',snd',bop_leq,le,decide_false,condF]
   exact hk _ (by omega) (by omega) (.inl (by omega)) hlo
theorem up1 (h:SA A) {n N id c a i j L:Nat} {s:St (FG G)} {m:List Nat} {kx:Nat→Value→St (FG G)→Option (List (Value×St (FG G)))} {kr:Value→St (FG G)→Option (List (Value×St (FG G)))} {Q:Value→St (FG G)→Prop} (g:(FG G).get s.h id=some (.row (rowU m))) (hL:m.length=L) (hj:j<L) (ha:a<L) (hl:L<2^40) (hij:i≤j+1)
 (hk:∀ i':Nat,i≤i'→i'≤j+1→(i'=j+1∨gt m a<gt m i')→(∀ k,i≤k→k<i'→gt m k≤gt m a)→One (kx 2 (I (i':Int)) s) Q) :
 One (iterS (f221_l1 (dOps (H:=FG G) prog) (callD prog A (n+2)) N (sU id L c) (I (a:Int)) (I (j:Int))) kx kr (2^64) (I (i:Int)) s) Q:=by
 refine list_one (List.replicate (j+1-i) ()) (fun t (x:Value) (s':St (FG G))=>x=I ((i+t:Nat):Int)∧s'=s∧∀ k,i≤k→k<i+t→gt m k≤gt m a) ?_ ?_ ⟨rfl,rfl,fun k _ _=>by omega⟩ (by rw [List.length_replicate]; omega)
 · rintro t ht x s' ⟨rfl,rfl,hlo⟩ nx hnx
   rw [List.length_replicate] at ht
   have le:((i+t:Nat):Int)≤(j:Int):=by omega
   have w:IntKind.i64.wrap (((i+t:Nat):Int)+1)=((i+(t+1):Nat):Int):=by rw [wrap_i64 (by omega) (by omega)]; omega
   have ix1:indexAddrD prog 67 (sU id L c) (I ((i+t:Nat):Int))=some (pt id (i+t)):=ixU (by omega)
   have ix2:indexAddrD prog 67 (sU id L c) (I (a:Int))=some (pt id a):=ixU (by omega)
   have l1:=ldg g (i:=i+t) (by omega)
   have l2:=ldg g (i:=a) (by omega)
   have e:=oneS (c220 h (n:=n) (s:=s') (gt m a) (gt m (i+t)))
   by_cases hc:gt m (i+t)≤gt m a
   · rw [decide_eq_false (show ¬ gt m a<gt m (i+t) by omega)] at e
     simp only [f221_l1,oO,bindS,many1,jnE,boolS,gdB,fst',snd',bop_leq,le,decide_true,condT,ix1,ix2,l1,l2,e,uop_not,Bool.not_false,bop_add,w]
     refine hnx _ _ ⟨rfl,rfl,fun k h1 h2=>?_⟩
     rcases (show k<i+t∨k=i+t by omega) with h3 | rfl
     · exact hlo _ h1 h3
     · omega
   · rw [decide_eq_true (show gt m a<gt m (i+t) by omega)] at e
     simp only [f221_l1,oO,bindS,many1,jnE,boolS,gdB,fst',snd',bop_leq,le,decide_true,condT,condF,ix1,ix2,l1,l2,e,uop_not,Bool.not_true,condF]
     exact hk (i+t) (by omega) (by omega) (.inr (by omega)) hlo
 · rintro x s' ⟨rfl,rfl,hlo⟩ nx
   rw [List.length_replicate] at hlo ⊢
   have le:¬ ((i+(j+1-i):Nat):Int)≤(j:Int):=by omega
   simp only [f221_l1,oO,bindS,many1,jnE,boolS,gdB,fst',snd',bop_leq,le,decide_false,condF]
   exact hk _ (by omega) (by omega) (.inl (by omega)) hlo
theorem dn1 (h:SA A) {n N id c a i j L:Nat} {s:St (FG G)} {m:List Nat} {kx:Nat→Value→St (FG G)→Option (List (Value×St (FG G)))} {kr:Value→St (FG G)→Option (List (Value×St (FG G)))} {Q:Value→St (FG G)→Prop} (g:(FG G).get s.h id=some (.row (rowU m))) (hL:m.length=L) (hj:j<L) (ha:a<L) (hl:L<2^40) (hi1:1≤i) (hij:i≤j+1)
 (hk:∀ j':Nat,i≤j'+1→j'≤j→(j'+1=i∨gt m j'<gt m a)→(∀ k,j'<k→k≤j→gt m a≤gt m k)→One (kx 2 (I (j':Int)) s) Q) :
 One (iterS (f222_l1 (dOps (H:=FG G) prog) (callD prog A (n+2)) N (sU id L c) (I (a:Int)) (I (i:Int))) kx kr (2^64) (I (j:Int)) s) Q:=by
 refine list_one (List.replicate (j+1-i) ()) (fun t (x:Value) (s':St (FG G))=>x=I ((j-t:Nat):Int)∧s'=s∧∀ k,j-t<k→k≤j→gt m a≤gt m k) ?_ ?_ ⟨rfl,rfl,fun k _ _=>by omega⟩ (by rw [List.length_replicate]; omega)
 · rintro t ht x s' ⟨rfl,rfl,hlo⟩ nx hnx
   rw [List.length_replicate] at ht
   have le:(i:Int)≤((j-t:Nat):Int):=by omega
   have w:IntKind.i64.wrap (((j-t:Nat):Int)-1)=((j-(t+1):Nat):Int):=by rw [wrap_i64 (by omega) (by omega)]; omega
   have ix1:indexAddrD prog 67 (sU id L c) (I ((j-t:Nat):Int))=some (pt id (j-t)):=ixU (by omega)
   have ix2:indexAddrD prog 67 (sU id L c) (I (a:Int))=some (pt id a):=ixU (by omega)
   have l1:=ldg g (i:=j-t) (by omega)
   have l2:=ldg g (i:=a) (by omega)
   have e:=oneS (c220 h (n:=n) (s:=s') (gt m (j-t)) (gt m a))
   by_cases hc:gt m a≤gt m (j-t)
   · rw [decide_eq_false (show ¬ gt m (j-t)<gt m a by omega)] at e
     simp only [f222_l1,oO,bindS,many1,jnE,boolS,gdB,fst',snd',bop_leq,le,decide_true,condT,ix1,ix2,l1,l2,e,uop_not,Bool.not_false,b_sub,w]
     refine hnx _ _ ⟨rfl,rfl,fun k h1 h2=>?_⟩
     rcases (show j-t<k∨k=j-t by omega) with h3 | rfl
     · exact hlo _ h3 h2
     · omega
   · rw [decide_eq_true (show gt m (j-t)<gt m a by omega)] at e
     simp only [f222_l1,oO,bindS,many1,jnE,boolS,gdB,fst',snd',bop_leq,le,decide_true,condT,condF,ix1,ix2,l1,l2,e,uop_not,Bool.not_true,condF]
     exact hk (j-t) (by omega) (by omega) (.inr (by omega)) hlo
 · rintro x s' ⟨rfl,rfl,hlo⟩ nx
   rw [List.length_replicate] at hlo ⊢
   have le:¬ (i:Int)≤((j-(j+1-i):Nat):Int):=by omega
   simp only [f222_l1,oO,bindS,many1,jnE,boolS,gdB,fst',snd',bop_leq,le,decide_false,condF]
   exact hk _ (by omega) (by omega) (.inl (by omega)) hlo
theorem dn4 (h:SA A) {n N id c a i j L:Nat} {s:St (FG G)} {m:List Nat} {kx:Nat→Value→St (FG G)→Option (List (Value×St (FG G)))} {kr:Value→St (FG G)→Option (List (Value×St (FG G)))} {Q:Value→St (FG G)→Prop} {e:Value} (g:(FG G).get s.h id=some (.row (rowU m))) (hL:m.length=L) (hj:j<L) (ha:a<L) (hl:L<2^40) (hi1:1≤i) (hij:i≤j+1)
 (hk:∀ j':Nat,i≤j'+1→j'≤j→(j'+1=i∨gt m j'<gt m a)→(∀ k,j'<k→k≤j→gt m a≤gt m k)→One (kx 8 (I (j':Int)) s) Q) :
 One (iterS (f222_l4 (dOps (H:=FG G) prog) (callD prog A (n+2)) N (sU id L c) (I (a:Int)) (I (i:Int)) e) kx kr (2^64) (I (j:Int)) s) Q:=by
 refine list_one (List.replicate (j+1-i) ()) (fun t (x:Value) (s':St (FG G))=>x=I ((j-t:Nat):Int)∧s'=s∧∀ k,j-t<k→k≤j→gt m a≤gt m k) ?_ ?_ ⟨rfl,rfl,fun k _ _=>by omega⟩ (by rw [List.length_replicate]; omega)
 · rintro t ht x s' ⟨rfl,rfl,hlo⟩ nx hnx
   rw [List.length_replicate] at ht
   have le:(i:Int)≤((j-t:Nat):Int):=by omega
   have w:IntKind.i64.wrap (((j-t:Nat):Int)-1)=((j-(t+1):Nat):Int):=by rw [wrap_i64 (by omega) (by omega)]; omega
   have ix1:indexAddrD prog 67 (sU id L c) (I ((j-t:Nat):Int))=some (pt id (j-t)):=ixU (by omega)
   have ix2:indexAddrD prog 67 (sU id L c) (I (a:Int))=some (pt id a):=ixU (by omega)
   have l1:=ldg g (i:=j-t) (by omega)
   have l2:=ldg g (i:=a) (by omega)
   have e:=oneS (c220 h (n:=n) (s:=s') (gt m (j-t)) (gt m a))
   by_cases hc:gt m a≤gt m (j-t)
   · rw [decide_eq_false (show ¬ gt m (j-t)<gt m a by omega)] at e
     simp only [f222_l4,oO,bindS,many1,jnE,boolS,gdB,fst',snd',bop_leq,le,decide_true,condT,ix1,ix2,l1,l2,e,uop_not,Bool.not_false,b_sub,w]
     refine hnx _ _ ⟨rfl,rfl,fun k h1 h2=>?_⟩
     rcases (show j-t<k∨k=j-t by omega) with h3 | rfl
     · exact hlo _ h3 h2
     · omega
   · rw [decide_eq_true (show gt m (j-t)<gt m a by omega)] at e
     simp only [f222_l4,oO,bindS,many1,jnE,boolS,gdB,fst',snd',bop_leq,le,decide_true,condT,condF,ix1,ix2,l1,l2,e,uop_not,Bool.not_true,condF]
     exact hk (j-t) (by omega) (by omega) (.inr (by omega)) hlo
 · rintro x s' ⟨rfl,rfl,hlo⟩ nx
   rw [List.length_replicate] at hlo ⊢
   have le:¬ (i:Int)≤((j-(j+1-i):Nat):Int):=by omega
   simp only [f222_l4,oO,bindS,many1,jnE,boolS,gdB,fst',snd',bop_leq,le,decide_false,condF]
   exact hk _ (by omega) (by omega) (.inl (by omega)) hlo
theorem dn2 (h:SA A) {n N id c a i j L:Nat} {s:St (FG G)} {m:List Nat} {kx:Nat→Value→St (FG G)→Option (List (Value×St (FG G)))} {kr:Value→St (FG G)→Option (List (Value×St (FG G)))} {Q:Value→St (FG G)→Prop} (g:(FG G).get s.h id=some (.row (rowU m))) (hL:m.length=L) (hj:j<L) (ha:a<L) (hl:L<2^40) (hi1:1≤i) (hij:i≤j+1)
 (hk:∀ j':Nat,i≤j'+1→j'≤j→(j'+1=i∨gt m j'≤gt m a)→(∀ k,j'<k→k≤j→gt m a≤gt m k)→One (kx 4 (I (j':Int)) s) Q) :
 One (iterS (f221_l2 (dOps (H:=FG G) prog) (callD prog A (n+2)) N (sU id L c) (I (a:Int)) (I (i:Int))) kx kr (2^64) (I (j:Int)) s) Q:=by
 refine list_one (List.replicate (j+1-i) ()) (fun t (x:Value) (s':St (FG G))=>x=I ((j-t:Nat):Int)∧s'=s∧∀ k,j-t<k→k≤j→gt m a≤gt m k) ?_ ?_ ⟨rfl,rfl,fun k _ _=>by omega⟩ (by rw [List.length_replicate]; omega)
 · rintro t ht x s' ⟨rfl,rfl,hlo⟩ nx hnx
   rw [List.length_replicate] at ht
   have le:(i:Int)≤((j-t:Nat):Int):=by omega
   have w:IntKind.i64.wrap (((j-t:Nat):Int)-1)=((j-(t+1):Nat):Int):=by rw [wrap_i64 (by omega) (by omega)]; omega
   have ix1:indexAddrD prog 67 (sU id L c) (I ((j-t:Nat):Int))=some (pt id (j-t)):=ixU (by omega)
   have ix2:indexAddrD prog 67 (sU id L c) (I (a:Int))=some (pt id a):=ixU (by omega)
   have l1:=ldg g (i:=j-t) (by omega)
   have l2:=ldg g (i:=a) (by omega)
   have e:=oneS (c220 h (n:=n) (s:=s') (gt m a) (gt m (j-t)))
   by_cases hc:gt m a<gt m (j-t)
   · rw [decide_eq_true hc] at e
     simp only [f221_l2,oO,bindS,many1,jnE,boolS,gdB,fst',snd',bop_leq,le,decide_true,condT,ix1,ix2,l1,l2,e,b_sub,w]
     refine hnx _ _ ⟨rfl,rfl,fun k h1 h2=>?_⟩
     rcases (show j-t<k∨k=j-t by omega) with h3 | rfl
     · exact hlo _ h3 h2
     · omega
   · rw [decide_eq_false hc] at e
     simp only [f221_l2,oO,bindS,many1,jnE,boolS,gdB,fst',snd',bop_leq,le,decide_true,condT,condF,ix1,ix2,l1,l2,e,condF]
     exact hk (j-t) (by omega) (by omega) (.inr (by omega)) hlo
 · rintro x s' ⟨rfl,rfl,hlo⟩ nx
   rw [List.length_replicate] at hlo ⊢
   have le:¬ (i:Int)≤((j-(j+1-i):Nat):Int):=by omega
   simp only [f221_l2,oO,bindS,many1,jnE,boolS,gdB,fst',snd',bop_leq,le,decide_false,condF]
   exact hk _ (by omega) (by omega) (.inl (by omega)) hlo
theorem c222 (h:SA A) (hN:A.N=2^64) {n id c a b p:Nat} {s:St (FG G)} {l:List Nat} (g:(FG G).get s.h id=some (.row (rowU l))) (hap:a≤p) (hpb:p<b) (hb:b≤l.length) (hl:l.length<2^40) :
 ∃ m mid,∃ bl:Bool,PermIn a b l m∧a≤mid∧mid<b∧Le a mid m (gt m mid)∧Ge (mid+1) b m (gt m mid)∧callD prog A (n+3) (.fn 222) [sU id l.length c,I (a:Int),I (b:Int),I (p:Int)] s=some [(.tuple #[I (mid:Int),.bool bl],putD s id (.row (rowU m)))]:=by
 rw [call_fn (fn:=Try.f222) (h.i _ (by decide) (by decide)) (h.c _ (by decide) (by decide)) (by kernel_rfl),h.r _ (by decide) (by decide)]
 suffices hh:One (bodyD prog false (callD prog A (n+2)) A.N 222 Try.f222 [sU id l.length c,I (a:Int),I (b:Int),I (p:Int)] s) (fun v s'=>∃ m mid,∃ bl:Bool,PermIn a b l m∧a≤mid∧mid<b∧Le a mid m (gt m mid)∧Ge (mid+1) b m (gt m mid)∧v=.tuple #[I ((mid:Nat):Int),.bool bl]∧s'=putD s id (.row (rowU m))) by
  obtain ⟨v,s',e,m,mid,bl,h1,h2,h3,h4,h5,rfl,rfl⟩:=hh
  exact ⟨m,mid,bl,h1,h2,h3,h4,h5,e⟩
 rw [f222_r,hN]
 have ix:∀ i,i<b→indexAddrD prog 67 (sU id l.length c) (I ((i:Nat):Int))=some (pt id i):=fun i h=>ixU (by omega)
 have w1:IntKind.i64.wrap ((a:Int)+1)=((a+1:Nat):Int):=by rw [wrap_i64 (by omega) (by omega)]; omega
 have w2:IntKind.i64.wrap ((b:Int)-1)=((b-1:Nat):Int):=by rw [wrap_i64 (by omega) (by omega)]; omega
 have a1:a<l.length:=by omega
 have p1:p<l.length:=by omega
 have sw:∀ (m:List Nat) (i j:Nat) (hi:i<m.length) (hj:j<m.length),storeD prog (putD s id (.row (rowU m))) 70 (pt id i) (U (gt m j:Int))=some (putD s id (.row (rowU (m.set i m[j]))))∧storeD prog (putD s id (.row (rowU (m.set i m[j])))) 70 (pt id j) (U (gt m i:Int))=some (putD s id (.row (rowU (swapL m i j hi hj)))):=fun m i j hi hj=>by
  rw [← gt_of hi,← gt_of hj]; exact sw2 hi hj
 have gm:∀ m,(FG G).get (putD s id (.row (rowU m))).h id=some (.row (rowU m)):=fun m=>get_put_same _
 obtain ⟨s1,s2⟩:=sw l a p a1 p1
 rw [put_same g] at s1
 simp only [f222,oO,bindS,many1,jnE,boolS,gdB,fst',snd',ix p hpb,ix a (by omega),ldg g a1,ldg g p1,s1,s2,bop_add,w1,b_sub,w2]
 have hP0:PermIn a b l (swapL l a p a1 p1):=PermIn.swap l a1 p1 (Nat.le_refl _) (by omega) hap hpb
 have x0:gt (swapL l a p a1 p1) a=gt l p:=by
  rw [swapL_gt]
  by_cases e:a=p
  · rw [if_pos e,e]
  · rw [if_neg e,if_pos rfl]
 have hT0:Part a b (gt l p) (a+1) (b-1) (swapL l a p a1 p1):=⟨x0,fun k h1 h2=>by omega,fun k h1 h2=>by omega⟩
 have fin:∀ (m:List Nat) (j:Nat) (bl:Bool) (hj:j<m.length) (ha:a<m.length),PermIn a b l m→Part a b (gt l p) (j+1) j m→a≤j→j<b→One (some [(.tuple #[I (j:Int),.bool bl],putD s id (.row (rowU (swapL m j a hj ha))))]) (fun v s'=>∃ m mid,∃ bl:Bool,PermIn a b l m∧a≤mid∧mid<b∧Le a mid m (gt m mid)∧Ge (mid+1) b m (gt m mid)∧v=.tuple #[I ((mid:Nat):Int),.bool bl]∧s'=putD s id (.row (rowU m))):=fun m j bl hj ha hP hT h1 h2=>by
  obtain ⟨y1,y2,y3⟩:=part_end hT h1 h2 hj ha
  exact One.ret ⟨_,j,bl,hP.trans (PermIn.swap m hj ha h1 h2 (Nat.le_refl _) (by omega)),h1,h2,by rw [y2]; exact y1,by rw [y2]; exact y3,rfl,rfl⟩
 have hml0:=hP0.len
 refine up0 h (gm _) hml0 (by omega) a1 hl (by omega) fun i q1 q2 q3 q4=>?_
 simp only [beq_yes,condT]
 refine dn1 h (gm _) hml0 (by omega) a1 hl (by omega) q2 fun j r1 r2 r3 r4=>?_
 have hT1:Part a b (gt l p) i j (swapL l a p a1 p1):=⟨x0,fun k h1 h2=>by have:=q4 k (by omega) h2; rw [x0] at this; exact this,fun k h1 h2=>by have:=r4 k h1 (by omega); rw [x0] at this; exact this⟩
 generalize swapL l a p a1 p1=m at *
 have b0:a<m.length:=by omega
 by_cases hg:(i:Int)>(j:Int)
 · have b2:j<m.length:=by omega
   obtain ⟨t1,t2⟩:=sw m j a b2 b0
   simp only [oO,bindS,many1,jnE,boolS,gdB,fst',snd',beq_yes,bop_gtr,hg,decide_true,condT,ix j (by omega),ix a (by omega),ldg (gm m) b2,ldg (gm m) b0,t1,t2]
   exact fin m j true b2 b0 hP0 (by rw [show j+1=i from by omega]; exact hT1) (by omega) (by omega)
 · have hlt:i<j:=by
    by_cases e:i=j
    · subst e; omega
    · omega
   have b1:i<m.length:=by omega
   have b2:j<m.length:=by omega
   obtain ⟨t1,t2⟩:=sw m i j b1 b2
   have w3:IntKind.i64.wrap ((i:Int)+1)=((i+1:Nat):Int):=by rw [wrap_i64 (by omega) (by omega)]; omega
   have w4:IntKind.i64.wrap ((j:Int)-1)=((j-1:Nat):Int):=by rw [wrap_i64 (by omega) (by omega)]; omega
   simp only [oO,bindS,many1,jnE,boolS,gdB,fst',snd',beq_yes,bop_gtr,hg,decide_false,condT,condF,ix i (by omega),ix j (by omega),ldg (gm m) b1,ldg (gm m) b2,t1,t2,bop_add,w3,b_sub,w4]
   have hP1:=hP0.trans (PermIn.swap m b1 b2 (by omega) (by omega) (by omega) (by omega))
   have hT3:=part_swap hT1 (by omega) hlt (by omega) (by omega) (by omega) b1 b2
   clear hT1 hP0 hT0 x0
   refine loop_rule (fun d (z:Value×Value) (s':St (FG G))=>∃ i j m,d=j+1-i∧a+1≤i∧i≤j+1∧j<b∧z.1=I ((i:Nat):Int)∧z.2=I ((j:Nat):Int)∧PermIn a b l m∧Part a b (gt l p) i j m∧s'=putD s id (.row (rowU m))) (fun R=>One R (fun v s'=>∃ m mid,∃ bl:Bool,PermIn a b l m∧a≤mid∧mid<b∧Le a mid m (gt m mid)∧Ge (mid+1) b m (gt m mid)∧v=.tuple #[I ((mid:Nat):Int),.bool bl]∧s'=putD s id (.row (rowU m)))) ?_ _ (j-1+1-(i+1)) _ _ ⟨i+1,j-1,_,rfl,by omega,by omega,by omega,rfl,rfl,hP1,hT3,rfl⟩ (by omega)
   rintro d ⟨z1,z2⟩ s' ⟨i,j,m,rfl,hi,hij,hjb,e1,e2,hP,hT,rfl⟩ nx hnx
   simp only at e1 e2
   subst e1 e2
   have hml:=hP.len
   simp only [f222_l2]
   refine up3 h (gm m) hml (by omega) a1 hl hij fun i' q1 q2 q3 q4=>?_
   simp only [beq_yes,condT]
   refine dn4 h (gm m) hml (by omega) a1 hl (by omega) q2 fun j' r1 r2 r3 r4=>?_
   have hT2:Part a b (gt l p) i' j' m:=⟨hT.piv,fun k h1 h2=>by
    by_cases e:k<i
    · exact hT.lo k h1 e
    · have:=q4 k (by omega) h2; rw [hT.piv] at this; exact this,fun k h1 h2=>by
    by_cases e:j<k
    · exact hT.hi k e h2
    · have:=r4 k h1 (by omega); rw [hT.piv] at this; exact this⟩
   by_cases hg:(i':Int)>(j':Int)
   · simp only [oO,bindS,many1,jnE,boolS,gdB,fst',snd',beq_yes,bop_gtr,hg,decide_true,condT]
     have c1:j'<m.length:=by omega
     have c2:a<m.length:=by omega
     obtain ⟨t1,t2⟩:=sw m j' a c1 c2
     simp only [oO,bindS,many1,jnE,boolS,gdB,fst',snd',beq_yes,condT,ix j' (by omega),ix a (by omega),ldg (gm m) c1,ldg (gm m) c2,t1,t2]
     exact fin m j' false c1 c2 hP (by rw [show j'+1=i' from by omega]; exact hT2) (by omega) (by omega)
   · have hp:=hT.piv
     have hlt:i'<j':=by
      by_cases e:i'=j'
      · subst e; omega
      · omega
     have b1:i'<m.length:=by omega
     have b2:j'<m.length:=by omega
     obtain ⟨t1,t2⟩:=sw m i' j' b1 b2
     have w3:IntKind.i64.wrap ((i':Int)+1)=((i'+1:Nat):Int):=by rw [wrap_i64 (by omega) (by omega)]; omega
     have w4:IntKind.i64.wrap ((j':Int)-1)=((j'-1:Nat):Int):=by rw [wrap_i64 (by omega) (by omega)]; omega
     simp only [oO,bindS,many1,jnE,boolS,gdB,fst',snd',beq_yes,bop_gtr,hg,decide_false,condT,condF,ix i' (by omega),ix j' (by omega),ldg (gm m) b1,ldg (gm m) b2,t1,t2,bop_add,w3,b_sub,w4]
     exact hnx (j'-1+1-(i'+1)) (_,_) _ (by omega) ⟨i'+1,j'-1,_,rfl,by omega,by omega,by omega,rfl,rfl,hP.trans (PermIn.swap m b1 b2 (by omega) (by omega) (by omega) (by omega)),part_swap hT2 (by omega) hlt (by omega) (by omega) (by omega) b1 b2,rfl⟩
theorem c221 (h:SA A) (hN:A.N=2^64) {n id c a b p:Nat} {s:St (FG G)} {l:List Nat} (g:(FG G).get s.h id=some (.row (rowU l))) (hap:a≤p) (hpb:p<b) (hb:b≤l.length) (hl:l.length<2^40) :
 ∃ m mid,PermIn a b l m∧a<mid∧mid≤b∧gt m a=gt l p∧Le a mid m (gt l p)∧Ge mid b m (gt l p)∧callD prog A (n+3) (.fn 221) [sU id l.length c,I (a:Int),I (b:Int),I (p:Int)] s=some [(I (mid:Int),putD s id (.row (rowU m)))]:=by
 rw [call_fn (fn:=Try.f221) (h.i _ (by decide) (by decide)) (h.c _ (by decide) (by decide)) (by kernel_rfl),h.r _ (by decide) (by decide)]
 suffices hh:One (bodyD prog false (callD prog A (n+2)) A.N 221 Try.f221 [sU id l.length c,I (a:Int),I (b:Int),I (p:Int)] s) (fun v s'=>∃ m mid,PermIn a b l m∧a<mid∧mid≤b∧gt m a=gt l p∧Le a mid m (gt l p)∧Ge mid b m (gt l p)∧v=I ((mid:Nat):Int)∧s'=putD s id (.row (rowU m))) by
  obtain ⟨v,s',e,m,mid,h1,h2,h3,h4,h5,h6,rfl,rfl⟩:=hh
  exact ⟨m,mid,h1,h2,h3,h4,h5,h6,e⟩
 rw [f221_r,hN]
 have ix:∀ i,i<b→indexAddrD prog 67 (sU id l.length c) (I ((i:Nat):Int))=some (pt id i):=fun i h=>ixU (by omega)
 have w1:IntKind.i64.wrap ((a:Int)+1)=((a+1:Nat):Int):=by rw [wrap_i64 (by omega) (by omega)]; omega
 have w2:IntKind.i64.wrap ((b:Int)-1)=((b-1:Nat):Int):=by rw [wrap_i64 (by omega) (by omega)]; omega
 have a1:a<l.length:=by omega
 have p1:p<l.length:=by omega
 have sw:∀ (m:List Nat) (i j:Nat) (hi:i<m.length) (hj:j<m.length),storeD prog (putD s id (.row (rowU m))) 70 (pt id i) (U (gt m j:Int))=some (putD s id (.row (rowU (m.set i m[j]))))∧storeD prog (putD s id (.row (rowU (m.set i m[j])))) 70 (pt id j) (U (gt m i:Int))=some (putD s id (.row (rowU (swapL m i j hi hj)))):=fun m i j hi hj=>by
  rw [← gt_of hi,← gt_of hj]; exact sw2 hi hj
 have gm:∀ m,(FG G).get (putD s id (.row (rowU m))).h id=some (.row (rowU m)):=fun m=>get_put_same _
 obtain ⟨s1,s2⟩:=sw l a p a1 p1
 rw [put_same g] at s1
 simp only [f221,oO,bindS,many1,jnE,boolS,gdB,fst',snd',ix p hpb,ix a (by omega),ldg g a1,ldg g p1,s1,s2,bop_add,w1,b_sub,w2]
 have hP0:PermIn a b l (swapL l a p a1 p1):=PermIn.swap l a1 p1 (Nat.le_refl _) (by omega) hap hpb
 have x0:gt (swapL l a p a1 p1) a=gt l p:=by
  rw [swapL_gt]
  by_cases e:a=p
  · rw [if_pos e,e]
  · rw [if_neg e,if_pos rfl]
 have hT0:Part a b (gt l p) (a+1) (b-1) (swapL l a p a1 p1):=⟨x0,fun k h1 h2=>by omega,fun k h1 h2=>by omega⟩
 refine loop_rule (fun d (z:Value×Value) (s':St (FG G))=>∃ i j m,d=j+1-i∧a+1≤i∧i≤j+1∧j<b∧z.1=I ((i:Nat):Int)∧z.2=I ((j:Nat):Int)∧PermIn a b l m∧Part a b (gt l p) i j m∧s'=putD s id (.row (rowU m))) (fun R=>One R (fun v s'=>∃ m mid,PermIn a b l m∧a<mid∧mid≤b∧gt m a=gt l p∧Le a mid m (gt l p)∧Ge mid b m (gt l p)∧v=I ((mid:Nat):Int)∧s'=putD s id (.row (rowU m)))) ?_ _ (b-1+1-(a+1)) _ _ ⟨a+1,b-1,_,rfl,by omega,by omega,by omega,rfl,rfl,hP0,hT0,rfl⟩ (by omega)
 rintro d ⟨z1,z2⟩ s' ⟨i,j,m,rfl,hi,hij,hjb,e1,e2,hP,hT,rfl⟩ nx hnx
 simp only at e1 e2
 subst e1 e2
 have hml:=hP.len
 simp only [f221_l0]
 refine up1 h (gm m) hml (by omega) a1 hl hij fun i' q1 q2 q3 q4=>?_
 simp only [beq_yes,condT]
 refine dn2 h (gm m) hml (by omega) a1 hl (by omega) q2 fun j' r1 r2 r3 r4=>?_
 have hT2:Part a b (gt l p) i' j' m:=⟨hT.piv,fun k h1 h2=>by
  by_cases e:k<i
  · exact hT.lo k h1 e
  · have:=q4 k (by omega) h2; rw [hT.piv] at this; exact this,fun k h1 h2=>by
  by_cases e:j<k
  · exact hT.hi k e h2
  · have:=r4 k h1 (by omega); rw [hT.piv] at this; exact this⟩
 by_cases hg:(i':Int)>(j':Int)
 · simp only [oO,bindS,many1,jnE,boolS,gdB,fst',snd',beq_yes,bop_gtr,hg,decide_true,condT]
   refine One.ret ⟨m,i',hP,by omega,by omega,hT.piv,fun k h1 h2=>?_,fun k h1 h2=>hT2.hi k (by omega) h2,rfl,rfl⟩
   by_cases e:k=a
   · subst e; rw [hT.piv]; exact Nat.le_refl _
   · exact hT2.lo k (by omega) h2
 · have hp:=hT.piv
   have hlt:i'<j':=by
    by_cases e:i'=j'
    · subst e; omega
    · omega
   have b1:i'<m.length:=by omega
   have b2:j'<m.length:=by omega
   obtain ⟨t1,t2⟩:=sw m i' j' b1 b2
   have w3:IntKind.i64.wrap ((i':Int)+1)=((i'+1:Nat):Int):=by rw [wrap_i64 (by omega) (by omega)]; omega
   have w4:IntKind.i64.wrap ((j':Int)-1)=((j'-1:Nat):Int):=by rw [wrap_i64 (by omega) (by omega)]; omega
   simp only [oO,bindS,many1,jnE,boolS,gdB,fst',snd',beq_yes,bop_gtr,hg,decide_false,condT,condF,ix i' (by omega),ix j' (by omega),ldg (gm m) b1,ldg (gm m) b2,t1,t2,bop_add,w3,b_sub,w4]
   exact hnx (j'-1+1-(i'+1)) (_,_) _ (by omega) ⟨i'+1,j'-1,_,rfl,by omega,by omega,by omega,rfl,rfl,hP.trans (PermIn.swap m b1 b2 (by omega) (by omega) (by omega) (by omega)),part_swap hT2 (by omega) hlt (by omega) (by omega) (by omega) b1 b2,rfl⟩
end
end Go.Proofs.Ytmhmbmogodofeaa.S
