import Derived.Test.YtmhmbmogodofeaaFh
import Derived.IntWalk
namespace Go.FS
open Go.RowKit
variable {P:Program} {H:HeapI}
theorem bytesOf_eq:∀ {l:List Value} {b:List UInt8},bytesOf l=some b→∃ ns:List Int,l=ns.map (Value.int .u8)∧b=ns.map (fun n=>UInt8.ofNat n.toNat)
 | [],b,h=>by simp only [bytesOf] at h; injection h with h; exact ⟨[],rfl,h.symm⟩
 | .int .u8 n::l,b,h=>by
  simp only [bytesOf] at h
  obtain ⟨r,hr,rfl⟩:=msome h
  obtain ⟨ns,rfl,rfl⟩:=bytesOf_eq hr
  exact ⟨n::ns,rfl,rfl⟩
 | .int .i8 _::_,_,h | .int .i16 _::_,_,h | .int .i32 _::_,_,h | .int .i64 _::_,_,h | .int .u16 _::_,_,h | .int .u32 _::_,_,h | .int .u64 _::_,_,h | .bool _::_,_,h | .float _ _::_,_,h | .complex _ _ _::_,_,h | .string _::_,_,h | .pointer _::_,_,h | .slice _ _ _::_,_,h | .map _::_,_,h | .chan _::_,_,h | .func _ _ _::_,_,h | .nilFunc::_,_,h | .iface _ _::_,_,h | .nilIface::_,_,h | .agg _::_,_,h | .tuple _::_,_,h=>by cases h
theorem pushes:∀ (ns:List Int) (s:ByteArray),ns.foldl (fun r n=>r.push (UInt8.ofNat n.toNat)) s=⟨s.data++(ns.map fun n=>UInt8.ofNat n.toNat).toArray⟩
 | [],s=>by simp
 | n::ns,s=>by
  rw [List.foldl_cons,pushes ns]
  apply congrArg ByteArray.mk
  simp [ByteArray.push]
theorem convert_ok {md:Bool} {E:Env} {s:St H} {w:World} (hW:WRel E s w) {a b:TypeId} {x x':Value} {p:Value×St H} (hx:VRel E x x') (h:convertD P md s a b x=some p) :
 Goes E w p.2 p.1 ((convert a b x').run P w):=by
 unfold convertD at h
 split at h
 next sd k kk n hs hd =>
  injection h with h; subst h
  obtain rfl:=hx.int_inv
  refine ⟨E,_,w,?_,.int k _,hW,.refl E w⟩
  simp only [convert,Sem.run_bind,und_run hs,und_run hd,Result.andThen_ok]
  rfl
 next kk0 kk n hs hd =>
  injection h with h; subst h
  obtain rfl:=hx.int_inv
  refine ⟨E,_,w,?_,.string _,hW,.refl E w⟩
  simp only [convert,Sem.run_bind,und_run hs,und_run hd,Result.andThen_ok]
  rfl
 next b0 hs hd =>
  injection h with h; subst h
  obtain rfl:=hx.string_inv
  refine ⟨E,_,w,?_,.string _,hW,.refl E w⟩
  simp only [convert,Sem.run_bind,und_run hs,und_run hd,Result.andThen_ok]
  rfl
 next e b0 hs hd =>
  split at h
  next he =>
   obtain rfl:=hx.string_inv
   have hrun:=run_bytes_of_string (P:=P) w a b e b0 hs hd he
   rw [hrun]
   cases md with
   | true =>
    simp only [cond_true] at h
    cases h
   | false =>
   simp only [cond_false] at h
   injection h with h; subst h
   have hcap:b0.size≤grownCap w b0.size 0 e:=by simp only [grownCap,Question.cut]; omega
   have hsz:(bytesRow b0 (grownCap w b0.size 0 e)).size=grownCap w b0.size 0 e:=by simp [bytesRow]; omega
   have hrow:(bytesRow b0 (grownCap w b0.size 0 e)).toList=(b0.data.toList.map fun u=>Value.int .u8 u.toNat)++List.replicate (grownCap w b0.size 0 e-b0.size) (.int .u8 0):=by simp [bytesRow]
   generalize hR:bytesRow b0 (grownCap w b0.size 0 e)=R at hsz hrow
   generalize hC:grownCap w b0.size 0 e=C at hcap hsz hrow
   obtain ⟨k1,k2⟩:=frz_okF hW.drew R.toList e (R.size,R.size+1)
   rw [Array.toArray_toList] at k1 k2
   refine ⟨_,_,_,rfl,?_,k1,(Keep.drew E w).trans k2⟩
   have hel:∀ i,i<b0.size→(b0.data.toList.map fun u=>Value.agg #[.int .u8 u.toNat])[i]?=some (.agg #[.int .u8 (b0.data.toList.getD i 0).toNat]):=fun i hi=>by
    have:i<b0.data.toList.length:=by simpa using hi
    simp [List.getD,this,hi]
   exact fz_rel (E':=E.frz w.heap.size R.toList) (m:=0) (z:=1) (L:=b0.size) (cap:=C) (b:=w.heap.size) (o:=0) (els:=b0.data.toList.map fun u=>Value.agg #[.int .u8 u.toNat]) (cells:=b0.data.toList.map fun u=>Value.int .u8 u.toNat)
    (by simp) (fun i hi=>⟨_,hel i (by simpa using hi),rfl⟩) hcap (fun i j hi hj=>by
     have hj0:j=0:=by omega
     subst hj0
     have hlt:i<b0.data.toList.length:=by simpa using hi
     have hltR:i<R.toList.length:=by rw [hrow,List.length_append,List.length_map]; omega
     refine ⟨.int .u8 (b0.data.toList.getD i 0).toNat,by simp [List.getD,hlt,hi],?_,?_,?_⟩
     · simp only [Env.frz,Nat.zero_add,Nat.mul_one,Nat.add_zero]
       rw [if_pos ⟨trivial,hltR⟩,hrow,List.getElem?_append_left (by rw [List.length_map]; exact hlt)]
       simp [List.getD,hlt,hi]
     · unfold elL; rw [hel i hi]; exact .int _ _
     · unfold elL; rw [hel i hi]; rfl) ⟨fun e=>by omega,by omega⟩ (fun id e=>by omega)
  next=>cases h
 next e id o len c hs hd =>
  split at h
  next he =>
   obtain ⟨hc,h⟩:=csome h
   obtain ⟨l,hl,h⟩:=bsome h
   obtain ⟨bs,hb,h⟩:=msome h
   subst h
   obtain ⟨l',hfc,hlr,hlen⟩:=cells_ok (P:=P) hW hx hl
   obtain ⟨ns,rfl,rfl⟩:=bytesOf_eq hb
   have:l'=ns.map (Value.int .u8):=LRel.flat1 (List.all_eq_true.2 fun x hx=>by
    obtain ⟨u,_,rfl⟩:=List.mem_map.1 hx; rfl) hlr
   subst this
   obtain ⟨ad,cap,rfl,_,hle,hx1,ha⟩:=hx.slice_inv
   refine ⟨E,_,w,?_,.string _,hW,.refl E w⟩
   rw [run_convert_bytes_string w a b e (some ad) len cap hs he hd,run_bytesToString w ad len cap ns (by simpa [Builtin.firstCells] using hfc),pushes]
   simp
  next=>cases h
 next e k arr hs hd =>
  split at h
  next he =>
   obtain ⟨l,hl,h⟩:=bsome h
   obtain ⟨bs,hb,h⟩:=msome h
   subst h
   obtain ⟨l',hfc,hlr,hlen⟩:=cells_ok (P:=P) hW hx hl
   obtain ⟨ns,rfl,rfl⟩:=bytesOf_eq hb
   have:l'=ns.map (Value.int .u8):=LRel.flat1 (List.all_eq_true.2 fun x hx=>by
    obtain ⟨u,_,rfl⟩:=List.mem_map.1 hx; rfl) hlr
   subst this
   have hfzz:isFz arr=true:=by
    unfold cellsD at hl
    obtain ⟨hc,_⟩:=csome hl
    simp only [Bool.and_eq_true] at hc
    exact fzOk_is hc.2
   obtain ⟨z,base,cap,bb,o,f,rfl,hz,hle,hbb,_⟩:=hx.fz_inv hfzz
   refine ⟨E,_,w,?_,.string _,hW,.refl E w⟩
   cases base with
   | none =>
    have hcap:cap=0:=hbb.resolve_right (by simp)
    have hns:ns=[]:=by
     have h0:ns.length=0:=by simp at hlen; omega
     exact List.eq_nil_of_length_eq_zero h0
    subst hns
    simp only [convert,Sem.run_bind,und_run hs,und_run hd,und_run he,Result.andThen_ok,Conv.bytesToString,Sem.run_pure]
    rfl
   | some ad =>
    rw [run_convert_bytes_string w a b e (some ad) arr.size cap hs he hd,run_bytesToString w ad arr.size cap ns (by simpa [Builtin.firstCells] using hfc),pushes]
    simp
  next=>cases h
 next=>cases h
theorem lenOf_ok {E:Env} {s:St H} {w:World} (hW:WRel E s w) {t:TypeId} {rt:TypeId} {x x' v:Value} (hx:VRel E x x') (h:lenOfD P s t x=some v) :
 (Builtin.len_ #[t] rt #[x']).run P w=.ok v w∧VRel E v v:=by
 unfold lenOfD at h
 split at h
 next b hu =>
  injection h with h; subst h
  obtain rfl:=hx.string_inv
  exact ⟨by simp [Builtin.len_,und_run hu,goInt],.int _ _⟩
 next e a n c hu =>
  injection h with h; subst h
  cases hx with
  | slice=>exact ⟨by simp [Builtin.len_,und_run hu,goInt],.int _ _⟩
 next e m arr hu =>
  obtain ⟨hf,h⟩:=csome h
  injection h with h; subst h
  obtain ⟨z,base,cap,b,o,f,rfl,_⟩:=hx.fz_inv hf
  exact ⟨by simp [Builtin.len_,und_run hu,goInt],.int _ _⟩
 next k e hu =>
  injection h with h; subst h
  cases hx
  exact ⟨by simp [Builtin.len_,und_run hu,goInt],.int _ _⟩
 next k e id hu =>
  obtain ⟨q,hq,rfl⟩:=msome h
  cases hx with
  | map _ hid =>
   obtain ⟨_,es',h1,h2⟩:=(hW.obj id _ (mapD_eq hq):MapRel E w id q.1 q.2)
   have hsz:es'.size=q.1.length:=by rw [h2.1,Array.length_toList]
   refine ⟨?_,.int _ _⟩
   simp only [Builtin.len_,List.getElem?_toArray,List.getElem?_cons_zero,Sem.run_bind,und_run hu,Result.andThen_ok,getObj,Sem.run,h1]
   rw [hsz]; rfl
 next n e hu =>
  injection h with h; subst h
  refine ⟨?_,.int _ _⟩
  simp only [Builtin.len_,List.getElem?_toArray,List.getElem?_cons_zero,Sem.run_bind,und_run hu,Result.andThen_ok]
  rfl
 next=>cases h
theorem capOf_ok {E:Env} {t:TypeId} {rt:TypeId} {x x' v:Value} (hx:VRel E x x') (h:capOfD P t x=some v) (w:World) :
 (Builtin.cap_ #[t] rt #[x']).run P w=.ok v w∧VRel E v v:=by
 unfold capOfD at h
 split at h
 next e a n c hu =>
  obtain ⟨hc,h⟩:=csome h
  injection h with h; subst h
  cases hx with
  | slice id o len c a cap hid hl h2 ha =>
   obtain rfl:=h2 (Nat.eq_of_beq_eq_true hc)
   exact ⟨by simp [Builtin.cap_,und_run hu,goInt],.int _ _⟩
 next e k arr hu =>
  obtain ⟨hc,h⟩:=csome h
  injection h with h; subst h
  simp only [Bool.and_eq_true] at hc
  obtain ⟨z,base,cap,b,o,f,rfl,_,hlc,_,_,_,_,hx1,_⟩:=hx.fz_inv hc.1
  have hcap:cap=arr.size:=by
   have h2:=hc.2
   simp only [Bool.or_eq_true] at h2
   rcases h2 with h2 | h2
   · exact hx1.1 (Nat.eq_of_beq_eq_true h2)
   · have:=(hx1.2 (Nat.eq_of_beq_eq_true h2)).2; omega
  subst hcap
  exact ⟨by simp [Builtin.cap_,und_run hu,goInt],.int _ _⟩
 next=>cases h
theorem sliceArr_ok {E:Env} {s:St H} {w:World} (hW:WRel E s w) {t:TypeId} {x x' v:Value} {lo lo' hi hi':Option Value} (hx:VRel E x x') (hlo:ORel E lo lo') (hhi:ORel E hi hi') (h:sliceArrD P s t x lo hi=some v) :
 ∃ v',(Instr.sliceAt t x' lo' hi' none).run P w=.ok v' w∧VRel E v v':=by
 unfold sliceArrD at h
 obtain ⟨l,hl,h1⟩:=bsome h
 obtain ⟨hh,hhe,h2⟩:=bsome h1
 clear h h1
 obtain rfl:=VRel.optInt hlo hl
 obtain rfl:=VRel.optInt hhi hhe
 have h:=h2
 clear h2
 split at h
 next n e id o hu =>
  obtain ⟨z,hz,h⟩:=bsome h
  obtain ⟨r,hr,h⟩:=bsome h
  obtain ⟨hc,h⟩:=csome h
  injection h with h
  subst h
  simp only [Bool.and_eq_true] at hc
  obtain ⟨⟨c1,c2⟩,c3⟩:=hc
  have c1:=Nat.le_of_ble_eq_true c1
  have c2:=Nat.le_of_ble_eq_true c2
  have c3:=Nat.le_of_ble_eq_true c3
  obtain ⟨rfl,hid⟩:=hx.ptr_inv
  have hroom:=(hW.row (rowD_eq hr)).room
  have hb:=sliceBounds_run (P:=P) false n n hl hhe (show optInt none=some none from rfl) c1 (by simpa using c2) (by simp) (.inr rfl) w
  refine ⟨.slice (some (if n=l.getD 0 then ⟨E.blk id,E.off id+o,none⟩ else (⟨E.blk id,E.off id+o,none⟩:Addr).add (l.getD 0*z))) (hh.getD n-l.getD 0) (n-l.getD 0),?_,?_⟩
  · simp only [Instr.sliceAt,Sem.run_bind,und_run hu,Result.andThen_ok,Instr.sureAddr,Sem.run_pure,hb,sizeD_run hz,Option.getD_none]
  · refine .slice id _ _ _ _ _ hid (by omega) (fun hodd=>?_) ?_
    · have:hh.getD n=n:=by
       cases hq:Nat.beq (hh.getD n) n with
       | true=>exact Nat.eq_of_beq_eq_true hq
       | false=>rw [hq] at hodd; simp at hodd
      omega
    · by_cases hq:n=l.getD 0
      · left; omega
      · right
        have hdiv:(2*z+(bif Nat.beq (hh.getD n) n then 1 else 0)) / 2=z:=by
         cases Nat.beq (hh.getD n) n <;> simp; omega
        have h1:l.getD 0*z+(n-l.getD 0)*z=n*z:=by rw [← Nat.add_mul]; congr 1; omega
        rw [hdiv,if_neg hq]
        exact ⟨hid,by rw [addr_add,Nat.add_assoc],by omega⟩
 next=>cases h
theorem nilCheck_ok {E:Env} {x x' v:Value} (hx:VRel E x x') (h:nilCheckD x=some v) (w:World) :
 ∃ v',(match x' with
  | .pointer none | .nilIface | .nilFunc=>runtimePanic .nilDeref
  | .func (.method name) first captured =>
   match (first[0]?:Option Value) with
   | some .nilIface=>runtimePanic .nilDeref
   | some (.iface t w)=>do
    if (← nilAhead ((← program).types.size+Made.depth) t w name) != some false then
     unsupported (.noEntry "op/nilCheck.the method's receiver behind this interface value is a nil pointer, or cannot be seen to be none, and the arguments act or may panic (ledger 612)")
    pure (.value (.func (.method name) first captured))
   | _=>pure (.value (.func (.method name) first captured))
  | x=>pure (.value x):Sem Next).run P w=.ok (.value v') w∧VRel E v v':=by
 unfold nilCheckD at h
 split at h
 · injection h with h; subst h
   cases hx with
   | ptr id o h=>exact ⟨_,rfl,.ptr id o h⟩
 · injection h with h; subst h
   have hx2:=hx
   cases hx
   exact ⟨_,rfl,hx2⟩
 · injection h with h; subst h
   have hx2:=hx
   cases hx
   exact ⟨_,rfl,hx2⟩
 · split at h
   · rename_i hcs
     injection h with h; subst h
     obtain ⟨b,p,f,rfl,_⟩:=hx.fp_inv hcs
     exact ⟨_,rfl,hx⟩
   · rename_i hcs
     injection h with h; subst h
     obtain rfl:=hx.gp_inv hcs
     exact ⟨_,rfl,hx⟩
   · cases h
 · cases h
theorem runP_bind {α β:Type} (s:Sem α) (f:α→Sem β) (b:β) (h:runP P (s >>= f)=some b):∃ a,runP P s=some a∧runP P (f a)=some b:=by
 induction s with
 | pure a=>exact ⟨a,rfl,h⟩
 | program k ih=>exact ih P h
 | mark m k ih=>exact ih h
 | _=>cases h
theorem pureD_ok {s:Sem Value} {v:Value} (h:pureD P s=some v) (w:World):s.run P w=.ok v w∧∀ E,VRel E v v:=by
 unfold pureD at h
 obtain ⟨u,hu,h⟩:=bsome h
 obtain ⟨hf,h⟩:=csome h
 injection h with h
 subst h
 exact ⟨runP_run _ _ _ hu,fun E=>flat_refl hf⟩
theorem eqGuard_any {op:BinOp} {t:TypeId} {a b:Value} (h:runP P (eqGuard op t (.tmp 0) (.tmp 0) a b)=some ()) (x y:Operand) (w:World):(eqGuard op t x y a b).run P w=.ok () w:=by
 have h0:=runP_run _ _ w h
 unfold eqGuard at h0 ⊢
 by_cases hop:(!(match op with | .eql | .neq=>true | _=>false))=true
 · cases op <;> first | rfl | simp at hop
 · cases a <;> cases b <;> first
    | exact h0
    | (cases x <;> cases y <;> first | exact h0 | (cases op <;> rfl))
theorem eq_slice {t e:TypeId} (hu:P.underlying t=some (.slice e)) (a:Option Addr) (n cap m c:Nat) (op:BinOp) (p q:Operand) (w:World):(eqGuard op t p q (.slice a n cap) (.slice none m c)).run P w=.ok () w∧(Op.equal t (.slice a n cap) (.slice none m c)).run P w=.ok a.isNone w ∧
 (binOp .eql t (.slice a n cap) (.slice none m c)).run P w=.ok (.bool a.isNone) w∧(binOp .neq t (.slice a n cap) (.slice none m c)).run P w=.ok (.bool !a.isNone) w:=by
 have h1:(Op.equal t (.slice a n cap) (.slice none m c)).run P w=.ok a.isNone w:=by
  have:∀ dd,(Op.equalIn (dd+1) t (.slice a n cap) (.slice none m c)).run P w=.ok a.isNone w:=fun dd=>by
   simp only [Op.equalIn,Sem.run_bind,und_run hu,Result.andThen_ok]
   cases a <;> rfl
  exact this 9999
 have e1:binOp .eql t (.slice a n cap) (.slice none m c)=(do pure (.bool (← Op.equal t (.slice a n cap) (.slice none m c)))):=rfl
 have e2:binOp .neq t (.slice a n cap) (.slice none m c)=(do pure (.bool (!(← Op.equal t (.slice a n cap) (.slice none m c))))):=rfl
 exact ⟨by cases op <;> rfl,h1,by rw [e1,Sem.run_bind,h1]; rfl,by rw [e2,Sem.run_bind,h1]; rfl⟩
theorem nil_inv {E:Env} {b:Array Value} {v:Value} (h:VRel E (.iface 2 (.tuple b)) v) (hb:Nat.beq b.size 0=true):v=.slice none 0 0:=by
 have h0:=Nat.eq_of_beq_eq_true hb
 have hf:isFz b=true:=by
  unfold isFz
  have:b.toList=[]:=List.eq_nil_of_length_eq_zero (by simpa using h0)
  rw [this]
 obtain ⟨z,base,cap,bb,o,f,rfl,_,_,_,_,_,_,hx,_⟩:=h.fz_inv hf
 obtain ⟨h1,h2⟩:=hx.2 rfl
 subst h1 h2
 rw [h0]
theorem nilEq_slice {E:Env} {t e:TypeId} (hu:P.underlying t=some (.slice e)) {x x' y y':Value} (hx:VRel E x x') (hy:VRel E y y') (h:nilEq (some (.slice e)) x y=true):∃ a n c,x'=.slice (some a) n c∧y'=.slice none 0 0:=by
 unfold nilEq at h
 split at h
 all_goals first
  | (cases h; done)
  | (rename_i hq; injection hq with hq; cases hq; done)
  | skip
 · rename_i e2 m a b he
   simp only [Bool.and_eq_true] at h
   obtain ⟨⟨h1,h2⟩,h3⟩:=h
   have h1:0<a.size:=Nat.le_of_ble_eq_true h1
   obtain ⟨z,base,cap,bb,o,f,rfl,_,hl,hb,_⟩:=hx.fz_inv h2
   have:=hb.resolve_left (by omega)
   exact ⟨_,_,_,by rw [this],nil_inv hy h3⟩
 · rename_i e2 a n c b he
   obtain ⟨id,o,sp⟩:=a
   cases hx with
   | slice id o len c a cap hid hl hxx ha=>exact ⟨_,_,_,rfl,nil_inv hy h⟩
theorem bin_ok {E:Env} {op:BinOp} {t:TypeId} {x x' y y' v:Value} (hx:VRel E x x') (hy:VRel E y y') (h:(binD P op t x y).or (nilD P op t x y)=some v) (p q:Operand) (w:World) :
 (do eqGuard op t p q x' y'; binOp op t x' y':Sem Value).run P w=.ok v w∧VRel E v v:=by
 cases hb:binD P op t x y with
 | some u =>
  rw [hb] at h
  simp only [Option.some_or] at h
  injection h with h; subst h
  unfold binD at hb
  obtain ⟨hf,hb⟩:=csome hb
  simp only [Bool.and_eq_true] at hf
  rw [flat_rel hf.1 hx,flat_rel hf.2 hy]
  unfold pureD at hb
  obtain ⟨u2,hu,hb⟩:=bsome hb
  obtain ⟨hfl,hb⟩:=csome hb
  injection hb with hb
  subst hb
  obtain ⟨a,h1,h2⟩:=runP_bind _ _ _ hu
  refine ⟨?_,flat_refl hfl⟩
  rw [Sem.run_bind,eqGuard_any h1,Result.andThen_ok]
  exact runP_run _ _ _ h2
 | none =>
  rw [hb] at h
  simp only [Option.none_or] at h
  have sl:∀ e,P.underlying t=some (.slice e)→nilD P op t x y=some v→(do eqGuard op t p q x' y'; binOp op t x' y':Sem Value).run P w=.ok v w∧VRel E v v:=by
   intro e hu h
   unfold nilD at h
   rw [hu] at h
   have both:∀ (hq:nilEq (some (.slice e)) x y=true∨nilNil (some (.slice e)) x y=true),∃ a n c,x'=.slice a n c∧y'=.slice none 0 0∧(nilEq (some (.slice e)) x y=true→a.isNone=false)∧(nilEq (some (.slice e)) x y=false→a.isNone=true):=by
    intro hq
    cases hne:nilEq (some (.slice e)) x y with
    | true =>
     obtain ⟨a,n,c,e1,e2⟩:=nilEq_slice hu hx hy hne
     exact ⟨some a,n,c,e1,e2,(fun _=>rfl),(fun h=>by cases h)⟩
    | false =>
     rw [hne] at hq
     have hq:=hq.resolve_left (by simp)
     unfold nilNil at hq
     split at hq
     · simp only [Bool.and_eq_true] at hq
       exact ⟨none,0,0,nil_inv hx hq.1,nil_inv hy hq.2,(fun h=>by cases h),(fun _=>rfl)⟩
     · cases hq
   cases op <;> first | (cases h; done) | skip
   all_goals
    cases hne:nilEq (some (.slice e)) x y with
    | true =>
     rw [hne] at h
     simp only [cond_true] at h
     injection h with h; subst h
     obtain ⟨a,n,c,rfl,rfl,h1,_⟩:=both (.inl hne)
     obtain ⟨k1,_,k3,k4⟩:=eq_slice hu a n c 0 0 _ p q w
     rw [h1 hne] at k3 k4
     exact ⟨by rw [Sem.run_bind,k1,Result.andThen_ok]; first | exact k3 | exact k4,.bool _⟩
    | false =>
     rw [hne] at h
     simp only [cond_false] at h
     obtain ⟨hnn,h⟩:=csome h
     injection h with h; subst h
     obtain ⟨a,n,c,rfl,rfl,_,h1⟩:=both (.inr hnn)
     obtain ⟨k1,_,k3,k4⟩:=eq_slice hu a n c 0 0 _ p q w
     rw [h1 hne] at k3 k4
     exact ⟨by rw [Sem.run_bind,k1,Result.andThen_ok]; first | exact k3 | exact k4,.bool _⟩
  by_cases hsl:∃ e,P.underlying t=some (.slice e)
  · obtain ⟨e,hu⟩:=hsl
    exact sl e hu h
  have nn:nilNil (P.underlying t) x y=false:=by
   unfold nilNil
   split
   · rename_i hu; exact absurd ⟨_,hu⟩ hsl
   · rfl
  have key:nilEq (P.underlying t) x y=true→∃ d,P.underlying t=some d∧(eqGuard op t p q x' y').run P w=.ok () w∧(Op.equal t x' y').run P w=.ok false w ∧
     (binOp .eql t x' y').run P w=.ok (.bool false) w∧(binOp .neq t x' y').run P w=.ok (.bool true) w:=by
   intro hn
   have key2:∃ d,P.underlying t=some d∧(eqGuard op t p q x' y').run P w=.ok () w∧(∀ dd,(Op.equalIn (dd+1) t x' y').run P w=.ok false w) ∧
      binOp .eql t x' y'=(do pure (.bool (← Op.equal t x' y')))∧binOp .neq t x' y'=(do pure (.bool (!(← Op.equal t x' y')))):=by
     unfold nilEq at hn
     split at hn
     all_goals first
      | (cases hn; done)
      | (exfalso; rename_i hu; exact hsl ⟨_,hu⟩)
      | (rename_i hu
         cases hx <;> cases hy <;>
          (refine ⟨_,hu,by cases op <;> rfl,fun dd=>?_,rfl,rfl⟩
           simp only [Op.equalIn,Sem.run_bind,und_run hu,Result.andThen_ok]
           rfl))
   obtain ⟨d,k1,k2,k3,k4,k5⟩:=key2
   have k6:(Op.equal t x' y').run P w=.ok false w:=k3 9999
   exact ⟨d,k1,k2,k6,by rw [k4,Sem.run_bind,k6]; rfl,by rw [k5,Sem.run_bind,k6]; rfl⟩
  unfold nilD at h
  rw [nn] at h
  simp only [cond_false] at h
  split at h
  · obtain ⟨hc,h⟩:=csome h
    injection h with h; subst h
    obtain ⟨d,hu,k1,k2,k3,k4⟩:=key hc
    exact ⟨by rw [Sem.run_bind,k1,Result.andThen_ok,k3],.bool _⟩
  · obtain ⟨hc,h⟩:=csome h
    injection h with h; subst h
    obtain ⟨d,hu,k1,k2,k3,k4⟩:=key hc
    exact ⟨by rw [Sem.run_bind,k1,Result.andThen_ok,k4],.bool _⟩
  · cases h
theorem key_rel {E:Env} {t:TypeId} {k k':Value} (hk:keyFit P t k=true) (h:VRel E k k'):k'=k:=by
 unfold keyFit at hk
 split at hk
 · exact h.bool_inv
 · exact h.int_inv
 · exact h.string_inv
 · cases hk
theorem keyEq_now {E:Env} {t:TypeId} {d:TypeDesc} (hu:P.underlying t=some d) {k a a':Value} {b:Bool} (hk:keyFit P t k=true) (ha:VRel E a a') (h:keyEq k a=some b):Instr.sameNow d k a'=some b:=by
 unfold keyFit at hk
 rw [hu] at hk
 unfold keyEq at h
 split at h
 · rename_i k1 x k2 y
   obtain ⟨hc,h2⟩:=csome h
   injection h2 with h3
   have hc:k1=k2:=by simpa using hc
   obtain rfl:=ha.int_inv
   cases d <;> simp at hk
   simp only [Instr.sameNow,if_pos hc]; rw [← h3]; rfl
 · obtain rfl:=ha.string_inv
   injection h with h
   cases d <;> simp at hk
   simp only [Instr.sameNow]; rw [h]
 · obtain rfl:=ha.bool_inv
   injection h with h
   cases d <;> simp at hk
   simp only [Instr.sameNow]; rw [h]
 · cases h
theorem ERel.uncons {E:Env} {e:Value×Value×Nat} {l:List (Value×Value×Nat)} {m:List MapEntry} (h:ERel E (e::l) m):∃ e' l',m=e'::l'∧VRel E e.1 e'.key∧VRel E e.2.1 e'.val∧e.2.2=e'.born∧ERel E l l':=by
 obtain ⟨hl,h⟩:=h
 cases m with
 | nil=>simp at hl
 | cons e' l' =>
  obtain ⟨h1,h2,h3⟩:=h 0 (by simp) (by simp)
  exact ⟨e',l',rfl,h1,h2,h3,by simpa using hl,fun i a b=>h (i+1) (by simpa using a) (by simpa using b)⟩
theorem find_now {E:Env} {t:TypeId} {d:TypeDesc} (hu:P.underlying t=some d) {k:Value} (hk:keyFit P t k=true):∀ {l:List (Value×Value×Nat)} {m:List MapEntry} {i:Nat} {r:Option (Nat×Value)},ERel E l m→findD k l i=some r →
 (r=none∧Instr.findNow d k m i=some none)∨∃ j v v',r=some (j,v)∧Instr.findNow d k m i=some (some (j,v'))∧VRel E v v'∧i≤j∧∃ e e',l[j-i]?=some e∧m[j-i]?=some e'∧keyEq k e.1=some true∧VRel E e.1 e'.key∧v=e.2.1
 | [],m,i,r,hr,h=>by
  injection h with h
  have:m=[]:=List.eq_nil_of_length_eq_zero hr.1.symm
  subst this
  exact .inl ⟨h.symm,rfl⟩
 | e::l,m,i,r,hr,h=>by
  obtain ⟨e',l',rfl,h1,h2,h3,h4⟩:=hr.uncons
  obtain ⟨b,hb,h⟩:=bsome h
  have hn:=keyEq_now hu hk h1 hb
  cases b with
  | true =>
   injection h with h
   refine .inr ⟨i,e.2.1,e'.val,h.symm,?_,h2,Nat.le_refl _,e,e',by simp,by simp,hb,h1,rfl⟩
   simp only [Instr.findNow,hn]
  | false =>
   rcases find_now hu hk h4 h with ⟨q1,q2⟩ | ⟨j,v,v',q1,q2,q3,q4,e2,e2',q5,q6,q7⟩
   · exact .inl ⟨q1,by simp only [Instr.findNow,hn]; exact q2⟩
   · refine .inr ⟨j,v,v',q1,by simp only [Instr.findNow,hn]; exact q2,q3,by omega,e2,e2',?_,?_,q7⟩
     · rw [show j-i=(j-(i+1))+1 from by omega]; simpa using q5
     · rw [show j-i=(j-(i+1))+1 from by omega]; simpa using q6
theorem checkKey_run {t:TypeId} {d:TypeDesc} (hu:P.underlying t=some d) {k:Value} (hk:keyFit P t k=true) (em:Bool) (w:World):(Instr.checkKey em 10000 t k).run P w=.ok () w:=by
 unfold Instr.checkKey
 rw [Sem.run_bind,und_run hu,Result.andThen_ok]
 unfold keyFit at hk
 rw [hu] at hk
 cases d <;> cases k <;> simp at hk <;> rfl
theorem findKey_run {t:TypeId} {d:TypeDesc} (hu:P.underlying t=some d) {k:Value} {m:List MapEntry} {r:Option (Nat×Value)} (h:Instr.findNow d k m 0=some r) (w:World):(Instr.findKey t k m).run P w=.ok r w:=by
 unfold Instr.findKey
 rw [Sem.run_bind,und_run hu,Result.andThen_ok,h]
 rfl
theorem keyFit_und {t:TypeId} {k:Value} (h:keyFit P t k=true):∃ d,P.underlying t=some d:=by
 unfold keyFit at h
 split at h
 · exact ⟨_,by assumption⟩
 · exact ⟨_,by assumption⟩
 · exact ⟨_,by assumption⟩
 · cases h
theorem getMap_run {w:World} {b:Nat} {es:Array MapEntry} {c:Nat} (h:w.heap[b]?=some (.map es c)):(getObj b).run P w=.ok (.map es c) w:=by
 simp only [getObj,Sem.run,h]
theorem setMap_run {w:World} {b:Nat} {es:Array MapEntry} {c:Nat} (h:w.heap[b]?=some (.map es c)) (x:Obj):(setObj b x).run P w=.ok () { w with heap:=w.heap.setIfInBounds b x }:=by
 simp only [setObj,Sem.run,h]
theorem makeMap_ok {E:Env} {s:St H} {w:World} (hW:WRel E s w) {t:TypeId} {r r':Option Value} (hr:ORel E r r') (hh:okHint r=true) {p:Value×St H} (h:makeMapD P s t=some p):Goes E w p.2 p.1 ((Instr.makeMap t r').run P w):=by
 unfold makeMapD at h
 split at h
 next k e hu =>
  injection h with h; subst h
  obtain ⟨h1,h2⟩:=newObj_ok hW (.map [] 0) (.map #[] 0) 0 0 rfl (fun hb=>⟨by simp,#[],by simpa using hb,rfl,fun i a=>absurd a (Nat.not_lt_zero i)⟩)
  refine ⟨_,.map (some w.heap.size),_,?_,?_,h1,h2⟩
  · rcases hr with ⟨rfl,rfl⟩ | ⟨v,v',rfl,rfl,hv⟩
    · simp [Instr.makeMap]
    · unfold okHint at hh
      split at hh
      · rename_i e; cases e
      · rename_i e; injection e with e; subst e
        obtain rfl:=hv.int_inv
        simp [Instr.makeMap,und_run hu,asInt,asIntOf]
      · cases hh
  · have:=VRel.map (E:=E.add w.heap.size 0 0) E.n (Nat.lt_succ_self _)
    rw [Env.add_blk] at this
    rw [← hW.n]; exact this
 next=>cases h
theorem lookup_ok {E:Env} {s:St H} {w:World} (hW:WRel E s w) {t:TypeId} {x x' k k' v:Value} {ok:Bool} (hx:VRel E x x') (hk:VRel E k k') (h:lookupD P s t x k ok=some v) :
 ∃ v',(Instr.lookup t x' k' ok).run P w=.ok v' w∧VRel E v v':=by
 unfold lookupD at h
 split at h
 next kt et hu =>
  obtain ⟨hf,ha1⟩:=csome h
  obtain ⟨es,hes,ha2⟩:=bsome ha1
  obtain ⟨r,hr,ha3⟩:=bsome ha2
  obtain ⟨p,hp,hv⟩:=msome ha3
  clear h ha1 ha2 ha3
  obtain rfl:=key_rel hf hk
  obtain ⟨d,hd⟩:=keyFit_und hf
  have key:∃ es':Array MapEntry,ERel E es.1 es'.toList∧((x'=.map none∧es'=#[])∨∃ b c,x'=.map (some b)∧w.heap[b]?=some (.map es' c)):=by
   split at hes
   · injection hes with hes; subst hes
     cases hx
     exact ⟨#[],⟨rfl,fun i a=>absurd a (Nat.not_lt_zero i)⟩,.inl ⟨rfl,rfl⟩⟩
   · rename_i id
     cases hx with
     | map _ hid =>
      obtain ⟨_,es',h1,h2⟩:=(hW.obj id _ (mapD_eq hes):MapRel E w id es.1 es.2)
      exact ⟨es',h2,.inr ⟨_,_,rfl,h1⟩⟩
   · cases hes
  obtain ⟨es',hER,hcase⟩:=key
  have fin:∀ (u:Value) (b:Bool),((Instr.findNow d k' es'.toList 0=some none∧(zeroValue et).run P w=.ok u w∧b=false)∨∃ i,Instr.findNow d k' es'.toList 0=some (some (i,u))∧b=true)→VRel E p.1 u→p.2=b→∃ v',(Instr.lookup t x' k' ok).run P w=.ok v' w∧VRel E v v':=by
   intro u b hq hrel hb
   refine ⟨if ok then .tuple #[u,.bool b] else u,?_,?_⟩
   · rcases hcase with ⟨rfl,rfl⟩ | ⟨bb,c,rfl,h1⟩
     · rcases hq with ⟨hq,hz,rfl⟩ | ⟨i,hq,rfl⟩
       · simp only [Instr.lookup,Sem.run_bind,und_run hu,Result.andThen_ok,Sem.run_pure,checkKey_run hd hf,findKey_run hd hq,hz]
       · simp only [Instr.lookup,Sem.run_bind,und_run hu,Result.andThen_ok,Sem.run_pure,checkKey_run hd hf,findKey_run hd hq]
     · rcases hq with ⟨hq,hz,rfl⟩ | ⟨i,hq,rfl⟩
       · simp only [Instr.lookup,Sem.run_bind,und_run hu,Result.andThen_ok,getMap_run h1,Sem.run_pure,checkKey_run hd hf,findKey_run hd hq,hz]
       · simp only [Instr.lookup,Sem.run_bind,und_run hu,Result.andThen_ok,getMap_run h1,Sem.run_pure,checkKey_run hd hf,findKey_run hd hq]
   · rw [← hv]
     cases ok with
     | true=>exact VRel.tupleL (l:=[p.1,.bool p.2]) (l':=[u,.bool b]) (.cons hrel (.cons (by rw [hb]; exact .bool b) (.nil E)))
     | false=>exact hrel
  rcases find_now hd hf hER hr with ⟨rfl,q2⟩ | ⟨j,u,u',rfl,q2,q3,_⟩
  · obtain ⟨z,hz,hp⟩:=msome hp
    obtain ⟨i,zv,hi,hzv,rfl,hfl⟩:=zeroV_eq hz
    exact fin zv false (.inl ⟨q2,by simp [zeroValue,typeInfo,hi,hzv],rfl⟩) (by rw [← hp]; exact nz_rel hfl) (by rw [← hp])
  · injection hp with hp
    exact fin u' true (.inr ⟨j,q2,rfl⟩) (by rw [← hp]; exact q3) (by rw [← hp])
 next=>cases h
theorem ba_eq {a b:ByteArray} (h:(a == b)=true):a=b:=by
 cases a with | mk a=>cases b with | mk b =>
 have h:(a == b)=true:=h
 rw [eq_of_beq h]
theorem ba_refl (a:ByteArray):(a == a)=true:=by
 cases a with | mk a => 
 show (a == a)=true
 exact beq_self_eq_true a
theorem keyStays_run {old new:Value} (h:keyEq new old=some true) (w:World):(Instr.keyThatStays old new).run P w=.ok new w:=by
 have:Instr.sameBits 10000 old new=true:=by
  unfold keyEq at h
  split at h
  · rename_i k1 x k2 y
    obtain ⟨hc,h2⟩:=csome h
    have e1:k1=k2:=by simpa using hc
    have e2:x=y:=by simpa using h2
    clear h h2 hc
    subst e1 e2
    show (k1 == k1&&x == x)=true
    simp
  · rename_i a b
    injection h with h
    show (b == a)=true
    rw [ba_eq h]
    exact ba_refl _
  · rename_i a b
    injection h with h
    show (b == a)=true
    cases a <;> cases b <;> first | rfl | cases h
  · cases h
 unfold Instr.keyThatStays
 rw [this]; rfl
theorem mapPut_ok {E:Env} {s:St H} {w:World} (hW:WRel E s w) {id:Nat} {es:List (Value×Value×Nat)} {c:Nat} (hg:H.get s.h id=some (.map es c)) {es2:List (Value×Value×Nat)} {c2:Nat} {m2:Array MapEntry} (hE:ERel E es2 m2.toList) :
 WRel E (putD s id (.map es2 c2)) { w with heap:=w.heap.setIfInBounds (E.blk id) (.map m2 c2) }∧Keep E w E { w with heap:=w.heap.setIfInBounds (E.blk id) (.map m2 c2) }:=by
 have hown:E.own id=true:=(hW.obj id _ hg:MapRel E w id es c).own
 have hlt:=hW.lt id _ hg
 have hbl:=hW.blt id hlt hown
 have hne:∀ k,k≠E.blk id→({ w with heap:=w.heap.setIfInBounds (E.blk id) (.map m2 c2) }:World).heap[k]?=w.heap[k]?:=fun k hk=>by
  show (w.heap.setIfInBounds _ _)[k]?=_
  rw [Array.getElem?_setIfInBounds,if_neg (fun e=>hk e.symm)]
 refine ⟨hW.put id _ _ hg hown rfl (by simp) hne ⟨hown,m2,?_,hE⟩,.refl E,fun i a b=>absurd b (Nat.not_lt_of_le a),fun _ q=>.inl q,rfl,rfl,rfl,by simp,fun b hb hn _=>hne b (fun e=>hn id hlt hown e.symm),fun _ _ _ _ _=>rfl⟩
 show (w.heap.setIfInBounds _ _)[E.blk id]?=_
 rw [Array.getElem?_setIfInBounds,if_pos rfl,if_pos hbl]
theorem mapUpdate_ok {E:Env} {s s':St H} {w:World} (hW:WRel E s w) {t:TypeId} {x x' k k' v v':Value} (hx:VRel E x x') (hk:VRel E k k') (hv:VRel E v v') (h:mapUpdateD P s t x k v=some s') :
 ∃ w',(Instr.mapUpdate t x' k' v').run P w=.ok () w'∧WRel E s' w'∧Keep E w E w':=by
 unfold mapUpdateD at h
 split at h
 next kt et id hu =>
  obtain ⟨hf,ha1⟩:=csome h
  obtain ⟨es,hes,ha2⟩:=bsome ha1
  obtain ⟨r,hr,ha3⟩:=bsome ha2
  clear h ha1 ha2
  obtain rfl:=key_rel hf hk
  obtain ⟨d,hd⟩:=keyFit_und hf
  cases hx with
  | map _ hid =>
   have hg:=mapD_eq hes
   obtain ⟨_,es',h1,hER⟩:=(hW.obj id _ hg:MapRel E w id es.1 es.2)
   have pre:∀ {q:Option (Nat×Value)} {w':World},Instr.findNow d k' es'.toList 0=some q→((match q with
    | some (i,_)=>do
     let key ← Instr.keyThatStays (((es'[i]?).map (·.key)).getD k') k'
     setObj (E.blk id) (.map (es'.modify i fun e=>{ e with key,val:=v' }) es.2)
    | none=>setObj (E.blk id) (.map (es'.push { key:=k',val:=v',born:=es.2 }) (es.2+1)):Sem Unit).run P w=.ok () w') →
    (Instr.mapUpdate t (.map (some (E.blk id))) k' v').run P w=.ok () w':=by
    intro q w' hq hrun
    unfold Instr.mapUpdate
    rw [Sem.run_bind,und_run hu,Result.andThen_ok]
    dsimp only
    rw [Sem.run_bind,getMap_run h1,Result.andThen_ok]
    dsimp only
    rw [Sem.run_bind,checkKey_run hd hf,Result.andThen_ok,Sem.run_bind,findKey_run hd hq,Result.andThen_ok]
    cases q <;> exact hrun
   rcases find_now hd hf hER hr with ⟨rfl,q2⟩ | ⟨j,u,u',rfl,q2,q3,_,e,e',q4,q5,q6,q7,_⟩
   · injection ha3 with ha3
     subst ha3
     have hE2:ERel E (es.1++[(k',v,es.2)]) (es'.push { key:=k',val:=v',born:=es.2 }).toList:=by
      rw [Array.toList_push]
      refine ⟨by simp [hER.1],fun i a b=>?_⟩
      by_cases hi:i<es.1.length
      · rw [List.getElem_append_left hi,List.getElem_append_left (by rw [← hER.1]; exact hi)]
        exact hER.2 i hi _
      · have hl:=hER.1
        have e1:i=es.1.length:=by simp at a; omega
        subst e1
        rw [List.getElem_append_right (Nat.le_refl _),List.getElem_append_right (by omega)]
        simp only [hl,Nat.sub_self,List.getElem_cons_zero]
        exact ⟨hk,hv,trivial⟩
     obtain ⟨k1,k2⟩:=mapPut_ok hW hg (c2:=es.2+1) hE2
     exact ⟨_,pre q2 (setMap_run h1 _),k1,k2⟩
   · simp only [Nat.sub_zero] at q4 q5
     obtain ⟨e0,he0,hs'⟩:=msome ha3
     rw [q4] at he0
     injection he0 with he0
     subst he0 hs'
     have hjl:j<es.1.length:=(List.getElem?_eq_some_iff.1 q4).1
     have hE2:ERel E (es.1.set j (k',v,e.2.2)) (es'.modify j fun e=>{ e with key:=k',val:=v' }).toList:=by
      refine ⟨by simp [hER.1],fun i a b=>?_⟩
      have hl:=hER.1
      have hi:i<es.1.length:=by simpa using a
      have hi':i<es'.size:=by simpa [hl] using hi
      simp only [List.getElem_set,Array.getElem_toList,Array.getElem_modify]
      by_cases e1:j=i
      · subst e1
        rw [if_pos rfl,if_pos rfl]
        refine ⟨hk,hv,?_⟩
        have:=(hER.2 j hi (by simpa using hi')).2.2
        rw [List.getElem?_eq_getElem hi] at q4
        injection q4 with q4
        rw [q4] at this
        simpa using this
      · rw [if_neg e1,if_neg e1]
        have:=hER.2 i hi (by simpa using hi')
        simpa using this
     obtain ⟨k1,k2⟩:=mapPut_ok hW hg (c2:=es.2) hE2
     refine ⟨_,pre q2 ?_,k1,k2⟩
     have hkey:((es'[j]?).map (·.key)).getD k'=e'.key:=by
      have:es'[j]?=some e':=by simpa using q5
      rw [this]; rfl
     have hst:keyEq k' e'.key=some true:=by
      have hke:e'.key=e.1:=by
       unfold keyEq at q6
       split at q6
       · rename_i h8; rw [h8] at q7; rw [h8]; exact q7.int_inv
       · rename_i h8; rw [h8] at q7; rw [h8]; exact q7.string_inv
       · rename_i h8; rw [h8] at q7; rw [h8]; exact q7.bool_inv
       · cases q6
      rw [hke]; exact q6
     dsimp only
     rw [hkey,Sem.run_bind,keyStays_run hst,Result.andThen_ok]
     exact setMap_run h1 _
 next=>cases h
theorem delete_ok {E:Env} {s s':St H} {w:World} (hW:WRel E s w) {t rt:TypeId} {ats:List TypeId} {x x' k k':Value} (hx:VRel E x x') (hk:VRel E k k') (h:deleteD P s t x k=some s') :
 ∃ w',(Builtin.delete_ (t::ats).toArray rt #[x',k']).run P w=.ok (.tuple #[]) w'∧WRel E s' w'∧Keep E w E w':=by
 unfold deleteD at h
 split at h
 next kt et hu =>
  obtain ⟨hf,ha⟩:=csome h
  clear h
  obtain rfl:=key_rel hf hk
  obtain ⟨d,hd⟩:=keyFit_und hf
  split at ha
  · injection ha with ha; subst ha
    cases hx
    refine ⟨w,?_,hW,.refl E w⟩
    simp [Builtin.delete_,und_run hu,checkKey_run hd hf]
  · rename_i id
    obtain ⟨es,hes,ha⟩:=bsome ha
    obtain ⟨r,hr,ha⟩:=msome ha
    cases hx with
    | map _ hid =>
     have hg:=mapD_eq hes
     obtain ⟨_,es',h1,hER⟩:=(hW.obj id _ hg:MapRel E w id es.1 es.2)
     rcases find_now hd hf hER hr with ⟨rfl,q2⟩ | ⟨j,u,u',rfl,q2,q3,_,e,e',q4,q5,q6,q7,_⟩
     · subst ha
       obtain ⟨k1,k2⟩:=mapPut_ok hW hg (c2:=es.2) hER
       refine ⟨_,?_,k1,k2⟩
       simp [Builtin.delete_,und_run hu,getMap_run h1,checkKey_run hd hf,findKey_run hd q2,setMap_run h1]
     · subst ha
       have hE2:ERel E (es.1.eraseIdx j) (es'.eraseIdxIfInBounds j).toList:=by
        have hl:=hER.1
        have e1:(es'.eraseIdxIfInBounds j).toList=es'.toList.eraseIdx j:=by simp
        rw [e1]
        refine ⟨by simp only [List.length_eraseIdx,hl],fun i a b=>?_⟩
        simp only [List.getElem_eraseIdx]
        split
        · exact hER.2 _ _ _
        · exact hER.2 _ _ _
       obtain ⟨k1,k2⟩:=mapPut_ok hW hg (c2:=es.2) hE2
       refine ⟨_,?_,k1,k2⟩
       simp [Builtin.delete_,und_run hu,getMap_run h1,checkKey_run hd hf,findKey_run hd q2,setMap_run h1]
  · cases ha
 next=>cases h
theorem range_ok {E:Env} {s:St H} {w:World} (hW:WRel E s w) {t:TypeId} {x x':Value} (hx:VRel E x x') {p:Value×St H} (h:rangeD P s t x=some p):Goes E w p.2 p.1 ((Instr.range t x').run P w):=by
 have ptr:VRel (E.add w.heap.size 0 0) (.pointer (some ⟨s.n,0,none⟩)) (.pointer (some ⟨w.heap.size,0,none⟩)):=by
  have:=VRel.ptr (E:=E.add w.heap.size 0 0) E.n 0 (Nat.lt_succ_self _)
  simp only [Env.add_blk,Env.add_off] at this
  rw [← hW.n]; exact this
 unfold rangeD at h
 split at h
 next hu =>
  injection h with h; subst h
  cases hx
  obtain ⟨h1,h2⟩:=newObj_ok hW (.iter none 0 [] 0) (.mapIter none 0 #[] 0) 0 0 rfl (fun hb=>⟨by simp,by simp,(fun x hx=>by cases hx),by simpa using hb⟩)
  exact ⟨_,_,_,by simp [Instr.range,und_run hu],ptr,h1,h2⟩
 next id hu =>
  obtain ⟨es,hes,rfl⟩:=msome h
  cases hx with
  | map _ hid =>
   obtain ⟨_,es',q1,_⟩:=(hW.obj id _ (mapD_eq hes):MapRel E w id es.1 es.2)
   obtain ⟨h1,h2⟩:=newObj_ok hW (.iter (some id) es.2 [] es.2) (.mapIter (some (E.blk id)) es.2 #[] es.2) 0 0 rfl (fun hb=>⟨by simp,by simp,(fun x hx=>by injection hx with hx; subst hx; exact Nat.lt_succ_of_lt hid),by
    have:=(E.le_add w.heap.size 0 0).blk id hid
    simp only [Option.map_some,this]; simpa using hb⟩)
   exact ⟨_,_,_,by simp [Instr.range,und_run hu,getMap_run q1],ptr,h1,h2⟩
 next=>cases h
theorem mapEntry_ok {E:Env} {s:St H} {w:World} (hW:WRel E s w) {t:TypeId} {x x' k k':Value} {p:Value×St H} (hx:VRel E x x') (hk:VRel E k k') (h:mapEntryD P s t x k=some p) :
 Goes E w p.2 p.1 ((Instr.mapEntry t x' k').run P w):=by
 unfold mapEntryD at h
 split at h
 next kt et id hu =>
  obtain ⟨hf,ha1⟩:=csome h
  obtain ⟨es,hes,ha2⟩:=bsome ha1
  obtain ⟨r,hr,ha3⟩:=bsome ha2
  clear h ha1 ha2
  obtain rfl:=key_rel hf hk
  obtain ⟨d,hd⟩:=keyFit_und hf
  cases hx with
  | map _ hid =>
   have hg:=mapD_eq hes
   obtain ⟨_,es',h1,hER⟩:=(hW.obj id _ hg:MapRel E w id es.1 es.2)
   rcases find_now hd hf hER hr with ⟨rfl,q2⟩ | ⟨j,u,u',rfl,q2,q3,_,e,e',q4,q5,q6,q7,q8⟩
   · obtain ⟨z,hz,rfl⟩:=msome ha3
     obtain ⟨i,zv,hi,hzv,rfl,hfl⟩:=zeroV_eq hz
     have hzr:(zeroValue et).run P w=.ok zv w:=by simp [zeroValue,typeInfo,hi,hzv]
     have hE2:ERel E (es.1++[(k',nz zv,es.2)]) (es'.push { key:=k',val:=zv,born:=es.2 }).toList:=by
      rw [Array.toList_push]
      refine ⟨by simp [hER.1],fun i a b=>?_⟩
      by_cases hi:i<es.1.length
      · rw [List.getElem_append_left hi,List.getElem_append_left (by rw [← hER.1]; exact hi)]
        exact hER.2 i hi _
      · have hl:=hER.1
        have e1:i=es.1.length:=by simp at a; omega
        subst e1
        rw [List.getElem_append_right (Nat.le_refl _),List.getElem_append_right (by omega)]
        simp only [hl,Nat.sub_self,List.getElem_cons_zero]
        exact ⟨hk,nz_rel hfl,trivial⟩
     obtain ⟨k1,k2⟩:=mapPut_ok hW hg (c2:=es.2+1) hE2
     refine ⟨E,.tuple #[zv,.int .i64 es.2],_,?_,VRel.tupleL (l:=[nz zv,.int .i64 es.2]) (l':=[zv,.int .i64 es.2]) (.cons (nz_rel hfl) (.cons (.int _ _) (.nil E))),k1,k2⟩
     simp only [Instr.mapEntry,Sem.run_bind,und_run hu,Result.andThen_ok,getMap_run h1,checkKey_run hd hf,findKey_run hd q2,hzr,setMap_run h1,Sem.run_pure]
     rfl
   · simp only [Nat.sub_zero] at q4 q5
     obtain ⟨e0,he0,hp⟩:=msome ha3
     rw [q4] at he0
     injection he0 with he0
     subst he0 hp
     have hE2:ERel E (es.1.set j (k',e.2.1,e.2.2)) (es'.modify j fun e=>{ e with key:=k' }).toList:=by
      refine ⟨by simp [hER.1],fun i a b=>?_⟩
      have hl:=hER.1
      have hi:i<es.1.length:=by simpa using a
      have hi':i<es'.size:=by simpa [hl] using hi
      simp only [List.getElem_set,Array.getElem_toList,Array.getElem_modify]
      by_cases e1:j=i
      · subst e1
        rw [if_pos rfl,if_pos rfl]
        have:=hER.2 j hi (by simpa using hi')
        rw [List.getElem?_eq_getElem hi] at q4
        injection q4 with q4
        rw [q4] at this
        refine ⟨hk,?_,?_⟩
        · simpa using this.2.1
        · simpa using this.2.2
      · rw [if_neg e1,if_neg e1]
        have:=hER.2 i hi (by simpa using hi')
        simpa using this
     obtain ⟨k1,k2⟩:=mapPut_ok hW hg (c2:=es.2) hE2
     have hj:es'[j]?=some e':=by simpa using q5
     have hkey:((es'[j]?).map (·.key)).getD k'=e'.key:=by rw [hj]; rfl
     have hborn:((es'[j]?).map (·.born)).getD 0=e'.born:=by rw [hj]; rfl
     have hst:keyEq k' e'.key=some true:=by
      have hke:e'.key=e.1:=by
       unfold keyEq at q6
       split at q6
       · rename_i h8; rw [h8] at q7; rw [h8]; exact q7.int_inv
       · rename_i h8; rw [h8] at q7; rw [h8]; exact q7.string_inv
       · rename_i h8; rw [h8] at q7; rw [h8]; exact q7.bool_inv
       · cases q6
      rw [hke]; exact q6
     have hjl:j<es.1.length:=(List.getElem?_eq_some_iff.1 q4).1
     have hrel:=hER.2 j hjl (by rw [← hER.1]; exact hjl)
     have e9:es.1[j]=e:=by rw [List.getElem?_eq_getElem hjl] at q4; injection q4
     have e10:es'.toList[j]'(by rw [← hER.1]; exact hjl)=e':=by rw [List.getElem?_eq_getElem (by rw [← hER.1]; exact hjl)] at q5; injection q5
     rw [e9,e10] at hrel
     refine ⟨E,.tuple #[u',.int .i64 e'.born],_,?_,VRel.tupleL (l:=[e.2.1,.int .i64 e.2.2]) (l':=[u',.int .i64 e'.born]) (.cons (by rw [← q8]; exact q3) (.cons (by rw [hrel.2.2]; exact .int _ _) (.nil E))),k1,k2⟩
     simp only [Instr.mapEntry,Sem.run_bind,und_run hu,Result.andThen_ok,getMap_run h1,checkKey_run hd hf,findKey_run hd q2]
     rw [hkey,keyStays_run hst,Result.andThen_ok,setMap_run h1,Result.andThen_ok,hj]
     rfl
 next=>cases h
theorem born_at {E:Env} {b:Nat}:∀ {l:List (Value×Value×Nat)} {m:List MapEntry} {i j:Nat},ERel E l m→bornAt b l i=some j→i≤j∧m.findIdx? (fun e=>(e.born:Int) == (b:Int))=some (j-i)
 | [],_,_,_,_,h=>by cases h
 | e::l,m,i,j,hr,h=>by
  obtain ⟨e',l',rfl,_,_,h3,h4⟩:=hr.uncons
  unfold bornAt at h
  rw [List.findIdx?_cons]
  cases hq:Nat.beq e.2.2 b with
  | true =>
   rw [hq] at h
   injection h with h
   subst h
   have:e'.born=b:=by rw [← h3]; exact Nat.eq_of_beq_eq_true hq
   simp [this]
  | false =>
   rw [hq] at h
   have hne:¬ e'.born=b:=fun e=>by
    rw [← h3] at e
    rw [e,beq_yes] at hq
    cases hq
   have hne2:((e'.born:Int) == (b:Int))=false:=by
    simp only [beq_eq_false_iff_ne,ne_eq]; omega
   rw [hne2]
   obtain ⟨k1,k2⟩:=born_at h4 h
   refine ⟨by omega,?_⟩
   rw [k2]
   simp only [Bool.false_eq_true,if_false,Option.map_some,Option.some.injEq]
   omega
theorem entryStore_ok {E:Env} {s s':St H} {w:World} (hW:WRel E s w) {t:TypeId} {x x' b b' v v':Value} (hx:VRel E x x') (hb:VRel E b b') (hv:VRel E v v') (h:entryStoreD s t x b v=some s') :
 ∃ w',(Instr.entryStore t x' b' v').run P w=.ok () w'∧WRel E s' w'∧Keep E w E w':=by
 unfold entryStoreD at h
 split at h
 next id kb b =>
  obtain ⟨es,hes,h⟩:=bsome h
  obtain ⟨h0,h⟩:=csome h
  have h0:0≤b:=by simpa using h0
  obtain ⟨i,hi,h⟩:=bsome h
  obtain ⟨e,he,rfl⟩:=msome h
  obtain rfl:=hb.int_inv
  cases hx with
  | map _ hid =>
   have hg:=mapD_eq hes
   obtain ⟨_,es',h1,hER⟩:=(hW.obj id _ hg:MapRel E w id es.1 es.2)
   obtain ⟨_,hfi⟩:=born_at hER hi
   rw [Nat.sub_zero] at hfi
   have hE2:ERel E (es.1.set i (e.1,v,e.2.2)) (es'.modify i fun e=>{ e with val:=v' }).toList:=by
    refine ⟨by simp [hER.1],fun j a c=>?_⟩
    have hl:=hER.1
    have hj:j<es.1.length:=by simpa using a
    have hj':j<es'.size:=by simpa [hl] using hj
    simp only [List.getElem_set,Array.getElem_toList,Array.getElem_modify]
    by_cases e1:i=j
    · subst e1
      rw [if_pos rfl,if_pos rfl]
      have:=hER.2 i hj (by simpa using hj')
      rw [List.getElem?_eq_getElem hj] at he
      injection he with he
      rw [he] at this
      refine ⟨?_,hv,?_⟩
      · simpa using this.1
      · simpa using this.2.2
    · rw [if_neg e1,if_neg e1]
      have:=hER.2 j hj (by simpa using hj')
      simpa using this
   obtain ⟨k1,k2⟩:=mapPut_ok hW hg (c2:=es.2) hE2
   refine ⟨_,?_,k1,k2⟩
   have hfa:es'.findIdx? (fun e=>(e.born:Int) == b)=some i:=by
    have e2:(b.toNat:Int)=b:=Int.toNat_of_nonneg h0
    rw [e2] at hfi
    rw [← hfi]
    rcases es' with ⟨l⟩
    simp
   simp only [Instr.entryStore,Sem.run_bind,getMap_run h1,Result.andThen_ok,asInt,asIntOf,Sem.run_pure]
   rw [hfa]
   exact setMap_run h1 _
 next=>cases h
theorem clear_ok {E:Env} {s s':St H} {w:World} (hW:WRel E s w) {t rt:TypeId} {x x':Value} (hx:VRel E x x') (h:clearD P s t x=some s') :
 ∃ w',(Builtin.clear_ #[t] rt #[x']).run P w=.ok (.tuple #[]) w'∧WRel E s' w'∧Keep E w E w':=by
 unfold clearD at h
 split at h
 next e id o n c hu =>
  obtain ⟨i,hi,h⟩:=bsome h
  obtain ⟨zs,hzs,h⟩:=bsome h
  obtain ⟨hc,h⟩:=csome h
  simp only [Bool.and_eq_true] at hc
  have c4:=Nat.eq_of_beq_eq_true hc.1
  obtain ⟨i2,zv,hi2,hzv,hzc,hzf⟩:=zeroD_eq hzs
  rw [hi] at hi2
  injection hi2 with hi2
  subst hi2
  have hzsz:zv.cells.size=i.size:=by rw [← Array.length_toList,← c4,← hzc]; simp
  obtain ⟨a,cap,rfl,hid,hle,hx1,ha⟩:=hx.slice_inv
  by_cases hn:n=0
  · subst hn
    simp only [beq_yes,cond_true] at h
    injection h with h; subst h
    exact ⟨w,by simp [Builtin.clear_,und_run hu],hW,.refl E w⟩
  · rw [beq_no hn] at h
    simp only [cond_false] at h
    rcases ha with rfl | ⟨_,rfl,hroom⟩
    · omega
    have hzero:LRel E (repeatL n zs) (Builtin.zeroCells zv.cells n).toList:=by
     have hln:(repeatL n zs).length=n*i.size:=by rw [repeatL_len,c4]
     refine ⟨by rw [hln,Array.length_toList,zeroCells_size,hzsz],fun j a b=>?_⟩
     obtain ⟨hj,hg⟩:=repeatL_get _ _ j a
     have hj2:j % zv.cells.size<zv.cells.size:=by rw [hzsz,← c4]; exact hj
     rw [hg]
     have e1:(Builtin.zeroCells zv.cells n).toList[j]=zv.cells[j % zv.cells.size]:=by
      rw [Array.getElem_toList]
      simp only [Builtin.zeroCells,Array.getElem_map,Array.getElem_range]
      rw [getElem!_pos zv.cells _ hj2]
     have e2:zs[j % zs.length]'hj=nz1 zv.cells[j % zv.cells.size]:=by
      subst hzc
      simp only [List.getElem_map,Array.getElem_toList,List.length_map,Array.length_toList]
     rw [e1,e2]
     exact nz1_rel (List.all_eq_true.1 hzf _ (by simp))
    obtain ⟨k1,k2,k3⟩:=storeAt_ok (P:=P) hW hzero h
    refine ⟨_,?_,k2,k3⟩
    have hzr:(zeroValue e).run P w=.ok zv w:=by simp [zeroValue,typeInfo,hi,hzv]
    obtain ⟨n,rfl⟩:∃ m,n=m+1:=⟨n-1,by omega⟩
    simp [Builtin.clear_,und_run hu,hzr,k1]
 next=>cases h
end Go.FS
