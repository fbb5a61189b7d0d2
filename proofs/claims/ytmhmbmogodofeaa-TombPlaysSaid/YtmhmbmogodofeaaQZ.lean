
namespace Go.FS.Q
def swapL (l:List Nat) (i j:Nat) (hi:i<l.length) (hj:j<l.length):List Nat:=(l.set i l[j]).set j l[i]
theorem swapL_len (l:List Nat) (i j:Nat) (hi:i<l.length) (hj:j<l.length):(swapL l i j hi hj).length=l.length:=by
 unfold swapL; rw [List.length_set,List.length_set]
theorem swapL_perm (l:List Nat) (i j:Nat) (hi:i<l.length) (hj:j<l.length):(swapL l i j hi hj).Perm l:=by
 have h:=(Array.swap_perm (xs:=l.toArray) (i:=i) (j:=j) (by simpa using hi) (by simpa using hj)).toList
 simpa [swapL,Array.swap] using h
theorem swapL_get (l:List Nat) (i j k:Nat) (hi:i<l.length) (hj:j<l.length) (hk:k<l.length):(swapL l i j hi hj)[k]'(by rw [swapL_len]; exact hk)=if k=j then l[i] else if k=i then l[j] else l[k]:=by
 unfold swapL
 rw [List.getElem_set]
 by_cases h1:j=k
 · subst h1; rw [if_pos rfl,if_pos rfl]
 · rw [if_neg h1,List.getElem_set,if_neg (show ¬ k=j from fun e=>h1 e.symm)]
   by_cases h2:i=k
   · subst h2; rw [if_pos rfl]
     try rw [if_pos rfl]
   · rw [if_neg h2,if_neg (show ¬ k=i from fun e=>h2 e.symm)]
structure PermIn (a b:Nat) (l m:List Nat):Prop where
 perm:m.Perm l
 out:∀ (k:Nat) (hk:k<l.length) (hk':k<m.length),(k<a∨b≤k)→m[k]=l[k]
theorem PermIn.refl (a b:Nat) (l:List Nat):PermIn a b l l:=⟨List.Perm.refl _,fun _ _ _ _=>rfl⟩
theorem PermIn.len {a b:Nat} {l m:List Nat} (h:PermIn a b l m):m.length=l.length:=h.perm.length_eq
theorem PermIn.trans {a b:Nat} {l m n:List Nat} (h:PermIn a b l m) (k:PermIn a b m n):PermIn a b l n :=
 ⟨k.perm.trans h.perm,fun i hi hi' ho=>(k.out i (by rw [h.len]; exact hi) hi' ho).trans (h.out i hi (by rw [h.len]; exact hi) ho)⟩
theorem PermIn.wide {a b a' b':Nat} {l m:List Nat} (h:PermIn a b l m) (ha:a'≤a) (hb:b≤b'):PermIn a' b' l m :=
 ⟨h.perm,fun i hi hi' ho=>h.out i hi hi' (by omega)⟩
theorem PermIn.swap {a b i j:Nat} (l:List Nat) (hi:i<l.length) (hj:j<l.length) (h1:a≤i) (h2:i<b) (h3:a≤j) (h4:j<b):PermIn a b l (swapL l i j hi hj) :=
 ⟨swapL_perm l i j hi hj,fun k hk _ ho=>by rw [swapL_get l i j k hi hj hk,if_neg (by omega),if_neg (by omega)]⟩
def SortIn (a b:Nat) (l:List Nat):Prop:=∀ (i j:Nat) (_:a≤i) (_:i≤j) (_:j<b) (hi:i<l.length) (hj:j<l.length),l[i]≤l[j]
end Go.FS.Q
namespace Go.FS.Q
def gt (l:List Nat) (i:Nat):Nat:=l.getD i 0
theorem gt_of {l:List Nat} {i:Nat} (h:i<l.length):l[i]=gt l i:=by
 unfold gt; rw [List.getD_eq_getElem?_getD,List.getElem?_eq_getElem h]; rfl
theorem swapL_gt (l:List Nat) (i j k:Nat) (hi:i<l.length) (hj:j<l.length):gt (swapL l i j hi hj) k=if k=j then gt l i else if k=i then gt l j else gt l k:=by
 by_cases hk:k<l.length
 · rw [← gt_of (by rw [swapL_len]; exact hk),swapL_get l i j k hi hj hk,gt_of hi,gt_of hj,gt_of hk]
 · rw [if_neg (by omega),if_neg (by omega)]
   unfold gt
   rw [List.getD_eq_getElem?_getD,List.getD_eq_getElem?_getD,List.getElem?_eq_none (by rw [swapL_len]; omega),List.getElem?_eq_none (by omega)]
theorem PermIn.same {a b:Nat} {l m:List Nat} (h:PermIn a b l m) {k:Nat} (hk:k<a∨b≤k):gt m k=gt l k:=by
 by_cases hl:k<l.length
 · have hm:k<m.length:=by rw [h.len]; exact hl
   rw [← gt_of hl,← gt_of hm]; exact h.out k hl hm hk
 · unfold gt
   rw [List.getD_eq_getElem?_getD,List.getD_eq_getElem?_getD,List.getElem?_eq_none (by rw [h.len]; omega),List.getElem?_eq_none (by omega)]
theorem split3 (a b:Nat) (hab:a≤b) (l:List Nat):l=l.take a++((l.take b).drop a++l.drop b):=by
 have h1:l.take b=l.take a++(l.take b).drop a:=by
  conv=>lhs; rw [← List.take_append_drop a (l.take b)]
  rw [List.take_take,Nat.min_eq_left hab]
 conv=>lhs; rw [← List.take_append_drop b l,h1]
 rw [List.append_assoc]
theorem PermIn.part {a b:Nat} {l m:List Nat} (h:PermIn a b l m) (hab:a≤b):((m.take b).drop a).Perm ((l.take b).drop a):=by
 have e1:m.take a=l.take a:=by
  apply List.ext_getElem
  · rw [List.length_take,List.length_take,h.len]
  · intro i h1 h2
    rw [List.length_take] at h1 h2
    rw [List.getElem_take,List.getElem_take]
    exact h.out i (by omega) (by omega) (.inl (by omega))
 have e2:m.drop b=l.drop b:=by
  apply List.ext_getElem
  · rw [List.length_drop,List.length_drop,h.len]
  · intro i h1 h2
    rw [List.length_drop] at h1 h2
    rw [List.getElem_drop,List.getElem_drop]
    exact h.out _ (by omega) (by omega) (.inr (by omega))
 have hp:=h.perm
 rw [split3 a b hab m,split3 a b hab l,e1,e2,List.perm_append_left_iff,List.perm_append_right_iff] at hp
 exact hp
theorem PermIn.mem {a b:Nat} {l m:List Nat} (h:PermIn a b l m) (hb:b≤l.length) {i:Nat} (h1:a≤i) (h2:i<b):∃ j,a≤j∧j<b∧gt m i=gt l j:=by
 have hp:=h.part (by omega)
 have hm:b≤m.length:=by rw [h.len]; exact hb
 have hx:m[i]'(by omega)∈(m.take b).drop a:=by
  rw [List.mem_iff_getElem]
  refine ⟨i-a,by rw [List.length_drop,List.length_take]; omega,?_⟩
  rw [List.getElem_drop,List.getElem_take]
  congr 1; omega
 have hy:=hp.mem_iff.1 hx
 rw [List.mem_iff_getElem] at hy
 obtain ⟨j,hj,e⟩:=hy
 rw [List.length_drop,List.length_take] at hj
 rw [List.getElem_drop,List.getElem_take] at e
 refine ⟨a+j,by omega,by omega,?_⟩
 rw [← gt_of (by omega),← gt_of (by omega)]
 exact e.symm
theorem PermIn.symm {a b:Nat} {l m:List Nat} (h:PermIn a b l m):PermIn a b m l:=⟨h.perm.symm,fun k h1 h2 h3=>(h.out k h2 h1 h3).symm⟩
theorem sortIn_iff {a b:Nat} {l:List Nat} (hb:b≤l.length):SortIn a b l↔∀ i j,a≤i→i≤j→j<b→gt l i≤gt l j:=by
 constructor
 · intro h i j h1 h2 h3
   rw [← gt_of (by omega),← gt_of (by omega)]
   exact h i j h1 h2 h3 _ _
 · intro h i j h1 h2 h3 hi hj
   rw [gt_of hi,gt_of hj]; exact h i j h1 h2 h3
def Le (a b:Nat) (l:List Nat) (x:Nat):Prop:=∀ i,a≤i→i<b→gt l i≤x
def Ge (a b:Nat) (l:List Nat) (x:Nat):Prop:=∀ i,a≤i→i<b→x≤gt l i
theorem Le.perm {a b x:Nat} {l m:List Nat} (h:Le a b l x) (p:PermIn a b l m) (hb:b≤l.length):Le a b m x:=fun i h1 h2=>by
 obtain ⟨j,k1,k2,e⟩:=p.mem hb h1 h2
 rw [e]; exact h j k1 k2
theorem Ge.perm {a b x:Nat} {l m:List Nat} (h:Ge a b l x) (p:PermIn a b l m) (hb:b≤l.length):Ge a b m x:=fun i h1 h2=>by
 obtain ⟨j,k1,k2,e⟩:=p.mem hb h1 h2
 rw [e]; exact h j k1 k2
def HeapF (g:Nat→Nat) (f lo hi:Nat):Prop:=∀ p c,lo≤p→(c=2*p+1∨c=2*p+2)→c<hi→g (f+c)≤g (f+p)
def HeapX (g:Nat→Nat) (f lo hi r:Nat):Prop:=(∀ p c,lo≤p→p≠r→(c=2*p+1∨c=2*p+2)→c<hi→g (f+c)≤g (f+p))∧∀ p c,lo≤p→(r=2*p+1∨r=2*p+2)→(c=2*r+1∨c=2*r+2)→c<hi→g (f+c)≤g (f+p)
theorem heapX_end {g:Nat→Nat} {f lo hi r:Nat} (h:HeapX g f lo hi r) (hr:∀ c,(c=2*r+1∨c=2*r+2)→c<hi→g (f+c)≤g (f+r)):HeapF g f lo hi:=fun p c h1 h2 h3=>by
 by_cases e:p=r
 · subst e; exact hr c h2 h3
 · exact h.1 p c h1 e h2 h3
theorem heapX_start {g:Nat→Nat} {f lo hi:Nat} (h:HeapF g f (lo+1) hi):HeapX g f lo hi lo :=
 ⟨fun p c h1 h2 h3 h4=>h p c (by omega) h3 h4,fun p c h1 h2 h3 h4=>by omega⟩
theorem heapX_swap {g g':Nat→Nat} {f lo hi r c:Nat} (h:HeapX g f lo hi r) (hr:lo≤r) (hc:c=2*r+1∨c=2*r+2) (hlt:c<hi) (hgt:g (f+r)<g (f+c)) (hmax:∀ d,(d=2*r+1∨d=2*r+2)→d<hi→g (f+d)≤g (f+c))
 (hg:∀ k,g' k=if k=f+c then g (f+r) else if k=f+r then g (f+c) else g k):HeapX g' f lo hi c:=by
 have gc:g' (f+c)=g (f+r):=by rw [hg,if_pos rfl]
 have gr:g' (f+r)=g (f+c):=by rw [hg,if_neg (by omega),if_pos rfl]
 have go:∀ k,k≠c→k≠r→g' (f+k)=g (f+k):=fun k h1 h2=>by rw [hg,if_neg (by omega),if_neg (by omega)]
 refine ⟨fun p d h1 h2 h3 h4=>?_,fun p d h1 h2 h3 h4=>?_⟩
 · by_cases ep:p=r
   · subst ep
     rw [gr]
     by_cases ed:d=c
     · subst ed; rw [gc]; omega
     · rw [go d ed (by omega)]; exact hmax d h3 h4
   · rw [go p h2 ep]
     have ed:d≠c:=by omega
     by_cases ed2:d=r
     · subst ed2; rw [gr]; exact h.2 p c h1 h3 hc hlt
     · rw [go d ed ed2]; exact h.1 p d h1 ep h3 h4
 · have ep:p=r:=by omega
   subst ep
   rw [gr,go d (by omega) (by omega)]
   exact h.1 c d (by omega) (by omega) h3 h4
theorem heap_max {g:Nat→Nat} {f hi:Nat} (h:HeapF g f 0 hi):∀ k,k<hi→g (f+k)≤g f:=by
 intro k
 induction k using Nat.strongRecOn with
 | _ k ih =>
  intro hk
  by_cases e:k=0
  · subst e; exact Nat.le_refl _
  · exact Nat.le_trans (h ((k-1) / 2) k (Nat.zero_le _) (by omega) hk) (ih _ (by omega) (by omega))
structure Phase (a b h:Nat) (m:List Nat):Prop where
 heap:HeapF (gt m) a 0 h
 sort:∀ i j,a+h≤i→i≤j→j<b→gt m i≤gt m j
 cross:∀ p q,a≤p→p<a+h→a+h≤q→q<b→gt m p≤gt m q
theorem phase_mid {a b i:Nat} {m:List Nat} (H:Phase a b (i+1) m) (h1:a<m.length) (h2:a+i<m.length):HeapX (gt (swapL m a (a+i) h1 h2)) a 0 i 0:=by
 have e:=fun k=>swapL_gt m a (a+i) k h1 h2
 refine ⟨fun p c _ k2 k3 k4=>?_,fun p c _ k2=>by omega⟩
 rw [e,e,if_neg (by omega),if_neg (by omega),if_neg (by omega),if_neg (by omega)]
 exact H.heap p c (Nat.zero_le _) k3 (by omega)
theorem phase_step {a b i:Nat} {m m2:List Nat} (H:Phase a b (i+1) m) (hb:b≤m.length) (hi:a+i<b) (h1:a<m.length) (h2:a+i<m.length) (hP:PermIn a (a+i) (swapL m a (a+i) h1 h2) m2) (hH:HeapF (gt m2) a 0 i):Phase a b i m2:=by
 have e:=fun k=>swapL_gt m a (a+i) k h1 h2
 have top:gt m2 (a+i)=gt m a:=by rw [hP.same (.inr (Nat.le_refl _)),e,if_pos rfl]
 have far:∀ q,a+(i+1)≤q→gt m2 q=gt m q:=fun q hq=>by rw [hP.same (.inr (by omega)),e,if_neg (by omega),if_neg (by omega)]
 have low:∀ p,a≤p→p<a+i→∃ k,k<i+1∧gt m2 p=gt m (a+k):=fun p q1 q2=>by
  obtain ⟨j,k1,k2,ej⟩:=hP.mem (by rw [swapL_len]; omega) q1 q2
  rw [ej,e,if_neg (by omega)]
  by_cases ea:j=a
  · rw [if_pos ea]; exact ⟨i,by omega,rfl⟩
  · rw [if_neg ea]; exact ⟨j-a,by omega,by congr 1; omega⟩
 refine ⟨hH,fun x y k1 k2 k3=>?_,fun p q k1 k2 k3 k4=>?_⟩
 · by_cases ex:x=a+i
   · subst ex
     rw [top]
     by_cases ey:y=a+i
     · subst ey; rw [top]; exact Nat.le_refl _
     · rw [far y (by omega)]; exact H.cross a y (Nat.le_refl _) (by omega) (by omega) k3
   · rw [far x (by omega),far y (by omega)]; exact H.sort x y (by omega) k2 k3
 · obtain ⟨k,hk,ek⟩:=low p k1 k2
   rw [ek]
   by_cases eq:q=a+i
   · subst eq; rw [top]; exact heap_max H.heap k hk
   · rw [far q (by omega)]; exact H.cross (a+k) q (by omega) (by omega) (by omega) k4
structure Part (a b x i j:Nat) (m:List Nat):Prop where
 piv:gt m a=x
 lo:∀ k,a<k→k<i→gt m k≤x
 hi:∀ k,j<k→k<b→x≤gt m k
theorem part_swap {a b x i j:Nat} {m:List Nat} (h:Part a b x i j m) (hi:a<i) (hij:i<j) (hj:j<b) (h1:gt m j≤x) (h2:x≤gt m i) (b1:i<m.length) (b2:j<m.length):Part a b x (i+1) (j-1) (swapL m i j b1 b2):=by
 have e:=fun k=>swapL_gt m i j k b1 b2
 refine ⟨by rw [e,if_neg (by omega),if_neg (by omega)]; exact h.piv,fun k q1 q2=>?_,fun k q1 q2=>?_⟩
 · rw [e,if_neg (by omega)]
   by_cases ek:k=i
   · rw [if_pos ek]; exact h1
   · rw [if_neg ek]; exact h.lo k q1 (by omega)
 · rw [e]
   by_cases ek:k=j
   · rw [if_pos ek]; exact h2
   · rw [if_neg ek,if_neg (by omega)]; exact h.hi k (by omega) q2
theorem part_end {a b x j:Nat} {m:List Nat} (h:Part a b x (j+1) j m) (h1:a≤j) (h2:j<b) (b1:j<m.length) (b2:a<m.length):Le a j (swapL m j a b1 b2) x∧gt (swapL m j a b1 b2) j=x∧Ge (j+1) b (swapL m j a b1 b2) x:=by
 have e:=fun k=>swapL_gt m j a k b1 b2
 refine ⟨fun k q1 q2=>?_,?_,fun k q1 q2=>?_⟩
 · rw [e]
   by_cases ek:k=a
   · rw [if_pos ek]; exact h.lo j (by omega) (by omega)
   · rw [if_neg ek,if_neg (by omega)]; exact h.lo k (by omega) (by omega)
 · rw [e]
   by_cases ek:j=a
   · rw [if_pos ek]; subst ek; exact h.piv
   · rw [if_neg ek,if_pos rfl]; exact h.piv
 · rw [e,if_neg (by omega),if_neg (by omega)]; exact h.hi k (by omega) q2
theorem sort_join {a c b x:Nat} {m:List Nat} (h1:∀ i j,a≤i→i≤j→j<c→gt m i≤gt m j) (h2:∀ i j,c≤i→i≤j→j<b→gt m i≤gt m j) (l:Le a c m x) (g:Ge c b m x):∀ i j,a≤i→i≤j→j<b→gt m i≤gt m j:=fun i j q1 q2 q3=>by
 by_cases hi:c≤i
 · exact h2 i j hi q2 q3
 · by_cases hj:j<c
   · exact h1 i j q1 q2 hj
   · exact Nat.le_trans (l i q1 (by omega)) (g j (by omega) q3)
end Go.FS.Q
namespace Go.FS.Q
theorem log2_div {x k:Nat} (h:2^k≤x):Nat.log2 (x / 2^k)+k=Nat.log2 x:=by
 have hp:=Nat.two_pow_pos k
 have h0:x≠0:=by omega
 have h1:x / 2^k≠0:=by
  have:=Nat.div_pos h hp
  omega
 symm
 rw [Nat.log2_eq_iff h0]
 obtain ⟨a,b⟩:=(Nat.log2_eq_iff h1).1 rfl
 refine ⟨?_,?_⟩
 · rw [Nat.pow_add]
   exact (Nat.le_div_iff_mul_le hp).1 a
 · rw [show Nat.log2 (x / 2^k)+k+1=Nat.log2 (x / 2^k)+1+k from by omega,Nat.pow_add]
   exact (Nat.div_lt_iff_lt_mul hp).1 b
def len8 (y:Nat):Nat:=if y=0 then 0 else Nat.log2 y+1
theorem toNat_ofNat {x:Nat} (h:x<256):(UInt8.ofNat x).toNat=x:=by
 rw [UInt8.toNat_ofNat']; exact Nat.mod_eq_of_lt h
theorem len8_pow {x:Nat} (h:x≠0):2^len8 x≤2*x∧x<2^len8 x:=by
 unfold len8
 rw [if_neg h]
 obtain ⟨a,b⟩:=(Nat.log2_eq_iff h).1 rfl
 exact ⟨by rw [Nat.pow_succ]; omega,b⟩
theorem len8_40 {x:Nat} (h:x<2^40):len8 x≤40:=by
 unfold len8
 split
 · omega
 · rename_i h0
   have:=(Nat.log2_lt h0).2 h
   omega
end Go.FS.Q
