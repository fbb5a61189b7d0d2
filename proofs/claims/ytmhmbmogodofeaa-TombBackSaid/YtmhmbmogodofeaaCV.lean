import Derived.Test.YtmhmbmogodofeaaV
import Derived.Test.YtmhmbmogodofeaaCA
set_option autoImplicit false
set_option linter.unusedVariables false
set_option linter.unusedSimpArgs false
set_option maxRecDepth 100000
namespace Go.Proofs.Ytmhmbmogodofeaa.S
open Go.FS Go.RowKit
attribute [local congr] bind_cg cond_cg gd_cg
def by' (b:UInt8):List Value:=[.int .u8 (b.toNat:Int)]
theorem by_len (b:UInt8):(by' b).length=1:=rfl
theorem by_str (n k:Nat) (b:UInt8):(by' b).map (stripN (k+1) n)=by' b:=rfl
theorem by_bel (n:Nat) (b:UInt8):∀ v∈by' b,Bel n v:=fun v hv=>by
  simp only [by',List.mem_cons,List.not_mem_nil,or_false] at hv
  subst hv; exact .int _ _
theorem ld_by {s:SH} (b:UInt8):loadD Try.prog s 5 (fpV (by' b).toArray 0)=some (.int .u8 (b.toNat:Int)):=by rw [load_fp,part_one a5]; rfl
theorem gapp35 {lo:Nat} {s:SH} {v:Value} {m2:Nat} {xs ys:List UInt8} (h:Grow lo 1 by' s v xs) (hlo:lo≤s.n) (hb:xs.length+ys.length≤140737488355328) :
    ∃ v' s',appD Try.prog false s 35 35 v (sl by' m2 ys)=some (v',s')∧Grow lo 1 by' s' v' (xs++ys)∧Sm lo s s'∧(∀ j,j<s.n→HP.get s.h j≠some (.tok xs.length 1)→HP.get s'.h j=HP.get s.h j) :=
  h.app (i:=Try.t5) hlo u35 u35 (by kernel_rfl) zr5 rfl (by kernel_rfl) (by kernel_rfl) (by decide) by_len (show (xs.length+ys.length)*1≤_ by omega) hb
theorem bs35 (s:SH) (b:UInt8):buildSliceD Try.prog false s 35 1 [(0,.int .u8 (b.toNat:Int))]=some (sl by' 1 [b],s):=by kernel_rfl
theorem mk35 (s:SH) (c:Int) (h0:0≤c) (h1:c≤140737488355328):makeSliceD Try.prog false s 35 (.int .i64 0) (.int .i64 c)=some (sl by' (s.n+3) [],newD s (.tok 0 1)):=by
  have hi:Try.prog.info? 5=some Try.t5:=by kernel_rfl
  have hb:(Try.t5.bytes:Nat)=1:=by kernel_rfl
  have hs:(Try.t5.size:Nat)=1:=by kernel_rfl
  unfold makeSliceD
  rw [u35]
  simp only [hi,bindS,zr5,hb,hs]
  have e:(decide ((0:Int)≤0)&&decide ((0:Int)≤c)&&decide (((1:Nat):Int)*c≤140737488355328)&&decide (c≤140737488355328)&&Nat.beq [Value.int .u8 0].length 1)=true:=by
    rw [decide_eq_true h0,decide_eq_true (show ((1:Nat):Int)*c≤140737488355328 by omega),decide_eq_true h1]; rfl
  rw [e,condT]
  rfl
theorem wrap_u8 (y:Nat):IntKind.u8.wrap (y:Int)=(((UInt8.ofNat y).toNat:Nat):Int):=by
  rw [wrap_us rfl,UInt8.toNat_ofNat']
  exact (Int.natCast_emod y 256).symm
theorem or128 (y:Nat):bopD Try.prog .or 5 (.int .u8 (((UInt8.ofNat y).toNat:Nat):Int)) (.int .u8 128)=some (.int .u8 (((UInt8.ofNat (y % 128+128)).toNat:Nat):Int)):=by
  rw [bop_int]
  have hlt:(UInt8.ofNat y).toNat<256:=UInt8.toNat_lt _
  have key:∀ k:Fin 256,IntKind.u8.wrap (((BitVec.ofInt 8 (k.val:Int) ||| BitVec.ofInt 8 128).toNat:Nat):Int)=((k.val % 128+128:Nat):Int):=by decide +kernel
  have this:IntKind.u8.wrap (((BitVec.ofInt 8 ((UInt8.ofNat y).toNat:Int) ||| BitVec.ofInt 8 128).toNat:Nat):Int)=(((UInt8.ofNat y).toNat % 128+128:Nat):Int):=key ⟨_,hlt⟩
  refine Eq.trans (congrArg (fun z=>some (Value.int IntKind.u8 z)) this) ?_
  have e:(UInt8.ofNat (y % 128+128)).toNat=y % 128+128:=ofNat_toNat (by omega)
  rw [e,UInt8.toNat_ofNat']
  congr 3; omega
theorem shr7 (y:Nat):bopD Try.prog .shr 70 (.int .u64 (y:Int)) (.int .u64 7)=some (.int .u64 ((y / 128:Nat):Int)):=by
  rw [bop_int]
  simp only [intS]
  rw [if_neg (by decide)]
  have e:((2:Int) ^ min (Int.toNat 7) IntKind.u64.bits)=((128:Nat):Int):=by decide
  rw [e,← Int.ofNat_fdiv]
theorem c124 {n:Nat} {s:SH} (x:Nat):callD Try.prog AT (n+1) (.fn 124) [.int .u64 (x:Int)] s=some [(.int .u64 (x:Int),s)]:=by
  refine cut_call (fn:=Try.f124) rfl rfl (by kernel_rfl) (v:=.int .u64 (x:Int)) (fun _ h=>by cases h) (.int _ _) ?_
  show One (bodyD Try.prog false _ _ 124 Try.f124 _ s) _
  rw [f124_r]
  exact One.ret ⟨rfl,.refl s⟩
theorem c123 {n m:Nat} {s:SH} (bs:List UInt8) (x:Nat) (hx:x<2 ^ 64) (hb:bs.length+20≤140737488355328) :
    ∃ v s',callD Try.prog AT (n+2) (.fn 123) [sl by' m bs,.int .u64 (x:Int),.func (.func 124) #[] #[]] s=some [(v,s')]∧Grow s.n 1 by' s' v (bs++vput x)∧Sm s.n s s':=by
  rw [call_fn (fn:=Try.f123) rfl rfl (by kernel_rfl)]
  suffices h:One (bodyD Try.prog false (callD Try.prog AT (n+1)) AT.N 123 Try.f123 [sl by' m bs,.int .u64 (x:Int),.func (.func 124) #[] #[]] s) fun v s'=>Grow s.n 1 by' s' v (bs++vput x)∧Sm s.n s s' by
    obtain ⟨v,s',e,h1,h2⟩:=h
    exact ⟨v,s',e,h1,h2⟩
  rw [f123_r]
  have hw:IntKind.i64.wrap ((bs.length:Int)+10)=(bs.length:Int)+10:=wrap_i64 (by omega) (by omega)
  have g0:Grow s.n 1 by' (newD s (.tok 0 1)) (sl by' (s.n+3) []) []:=.inr ⟨s.n,Nat.le_refl _,by rw [newD_n]; omega,rfl,get_new rfl⟩
  obtain ⟨v1,s1,e1,w1,w2,w3⟩:=gapp35 (m2:=m) (ys:=bs) g0 (by rw [newD_n]; omega) (by simp only [List.length_nil]; omega)
  have hs1:Sm s.n s s1:=((Sm.refl s.n s).new (Nat.le_refl _) _).trans w2
  rw [List.nil_append] at w1
  have tg:∀ args,tgtD (.func (.func 124) #[] #[]) args=some (.fn 124,args):=fun args=>by simp [tgtD]
  simp only [f123,o_bool,o_alloc,o_box,o_build,o_buildSlice,o_load,o_store,o_nilCheck,o_bop,o_uop,o_conv,o_slc,o_fieldAddr,o_field,o_indexAddr,o_index,o_extract,o_lookup,o_mapUpdate,o_makeMap,o_mapEntry,o_entryStore,o_delete,o_len,o_append,o_min,o_max,o_tgt,bindS,many1,jnE,boolS,gdB,fst',snd',len_sl u35,bop_add,hw,o_makeSlice,mk35 s _ (show 0≤(bs.length:Int)+10 by omega) (by omega),e1,tg,c124]
  refine loop_rule (fun d (y:Value×Value) (s':SH)=>∃ pre,y.2=.int .u64 (d:Int)∧d≤x∧pre++vput d=vput x∧Grow s.n 1 by' s' y.1 (bs++pre)∧Sm s.n s s') (fun r=>One r fun v s'=>Grow s.n 1 by' s' v (bs++vput x)∧Sm s.n s s') ?_ _ x (v1,.int .u64 (x:Int)) s1 ⟨[],rfl,Nat.le_refl _,rfl,by rw [List.append_nil]; exact w1,hs1⟩ (by show x<2 ^ 64; exact hx)
  rintro d ⟨y1,y2⟩ s' ⟨pre,h1,h2,h3,h4,h5⟩ nx hnx
  simp only at h1 h4
  subst h1
  have hpl:pre.length≤10:=by
    have:=vput_len10 hx
    have:=congrArg List.length h3
    rw [List.length_append] at this; omega
  by_cases hd:d≤127
  · have hng:¬ ((d:Int)>127):=by omega
    obtain ⟨v2,s2,e2,z1,z2,z3⟩:=gapp35 (m2:=1) (ys:=[UInt8.ofNat d]) h4 h5.1 (by rw [List.length_append]; simp only [List.length_singleton]; omega)
    simp only [f123_l0,o_bool,o_alloc,o_box,o_build,o_buildSlice,o_load,o_store,o_nilCheck,o_bop,o_uop,o_conv,o_slc,o_fieldAddr,o_field,o_indexAddr,o_index,o_extract,o_lookup,o_mapUpdate,o_makeMap,o_mapEntry,o_entryStore,o_delete,o_len,o_append,o_min,o_max,o_tgt,bindS,many1,jnE,boolS,gdB,fst',snd',bop_gtr,hng,decide_false,condF,beq_yes,condT,conv_int u70 u5,wrap_u8,bs35,e2]
    refine One.ret ⟨?_,h5.trans z2⟩
    rw [← h3,vput_lo hd,← List.append_assoc]; exact z1
  · have hg:(d:Int)>127:=by omega
    obtain ⟨v2,s2,e2,z1,z2,z3⟩:=gapp35 (m2:=1) (ys:=[UInt8.ofNat (d % 128+128)]) h4 h5.1 (by rw [List.length_append]; simp only [List.length_singleton]; omega)
    simp only [f123_l0,o_bool,o_alloc,o_box,o_build,o_buildSlice,o_load,o_store,o_nilCheck,o_bop,o_uop,o_conv,o_slc,o_fieldAddr,o_field,o_indexAddr,o_index,o_extract,o_lookup,o_mapUpdate,o_makeMap,o_mapEntry,o_entryStore,o_delete,o_len,o_append,o_min,o_max,o_tgt,bindS,many1,jnE,boolS,gdB,fst',snd',bop_gtr,hg,decide_true,condT,conv_int u70 u5,wrap_u8,or128,bs35,e2,shr7]
    refine hnx (d / 128) (_,_) _ (by omega) ⟨pre++[UInt8.ofNat (d % 128+128)],rfl,by omega,?_,?_,h5.trans z2⟩
    · rw [← h3,vput_hi hd,List.append_assoc]; rfl
    · rw [← List.append_assoc]; exact z1
theorem c72 {n m:Nat} {s:SH} (bs:List UInt8) (x:Nat) (hx:x<2 ^ 64) (hb:bs.length+20≤140737488355328) :
    ∃ v s',callD Try.prog AT (n+3) (.fn 72) [sl by' m bs,.int .u64 (x:Int)] s=some [(v,s')]∧Grow s.n 1 by' s' v (bs++vput x)∧Sm s.n s s':=by
  obtain ⟨v,s',e,h1,h2⟩:=c123 (n:=n) (m:=m) (s:=s) bs x hx hb
  refine ⟨v,s',?_,h1,h2⟩
  rw [call_fn (fn:=Try.f72) rfl rfl (by kernel_rfl)]
  show bodyD Try.prog false _ _ 72 Try.f72 _ s=_
  rw [f72_r]
  simp only [f72,e,bindS,many1]
theorem Grow.form {α:Type} {lo z:Nat} {enc:α→List Value} {s:SH} {v:Value} {xs:List α} (h:Grow lo z enc s v xs):∃ m,v=sl enc m xs:=by
  rcases h with ⟨rfl,rfl | rfl⟩ | ⟨id,_,_,rfl,_⟩
  · exact ⟨2,rfl⟩
  · exact ⟨1,rfl⟩
  · exact ⟨id+3,rfl⟩
end Go.Proofs.Ytmhmbmogodofeaa.S
set_option autoImplicit false
set_option linter.unusedVariables false
set_option linter.unusedSimpArgs false
set_option maxRecDepth 100000
namespace Go.Proofs.Ytmhmbmogodofeaa.S
open Go.FS Go.RowKit
attribute [local congr] bind_cg cond_cg gd_cg
theorem and127 (b:UInt8):bopD Try.prog .and 5 (.int .u8 (b.toNat:Int)) (.int .u8 127)=some (.int .u8 ((b.toNat % 128:Nat):Int)):=by
  rw [bop_int]
  have key:∀ k:Fin 256,IntKind.u8.wrap (((BitVec.ofInt 8 (k.val:Int) &&& BitVec.ofInt 8 127).toNat:Nat):Int)=((k.val % 128:Nat):Int):=by decide +kernel
  have this:IntKind.u8.wrap (((BitVec.ofInt 8 (b.toNat:Int) &&& BitVec.ofInt 8 127).toNat:Nat):Int)=((b.toNat % 128:Nat):Int):=key ⟨b.toNat,b.toNat_lt⟩
  exact congrArg (fun z=>some (Value.int IntKind.u8 z)) this
theorem or64 {a q k:Nat} (ha:a<2 ^ k) (hk:k≤64) (hq:q*2 ^ k<2 ^ 64):bopD Try.prog .or 70 (.int .u64 (a:Int)) (.int .u64 ((q*2 ^ k:Nat):Int))=some (.int .u64 ((a+q*2 ^ k:Nat):Int)):=by
  rw [bop_int]
  have hk2:(2:Nat) ^ k≤2 ^ 64:=Nat.pow_le_pow_right (by decide) hk
  have ha':a<2 ^ 64:=by omega
  have e1:(BitVec.ofInt 64 (a:Int)).toNat=a:=by rw [BitVec.ofInt_natCast,BitVec.toNat_ofNat,Nat.mod_eq_of_lt ha']
  have e2:(BitVec.ofInt 64 ((q*2 ^ k:Nat):Int)).toNat=q*2 ^ k:=by rw [BitVec.ofInt_natCast,BitVec.toNat_ofNat,Nat.mod_eq_of_lt hq]
  have e3:(BitVec.ofInt 64 (a:Int) ||| BitVec.ofInt 64 ((q*2 ^ k:Nat):Int)).toNat=a+q*2 ^ k:=by
    rw [BitVec.toNat_or,e1,e2,Nat.mul_comm q,Nat.or_comm,← Nat.two_pow_add_eq_or_of_lt ha,Nat.add_comm]
  have hlt:a+q*2 ^ k<2 ^ 64:=by rw [← e3]; exact BitVec.isLt _
  exact congrArg (fun z=>some (Value.int IntKind.u64 z)) (show IntKind.u64.wrap (((BitVec.ofInt 64 (a:Int) ||| BitVec.ofInt 64 ((q*2 ^ k:Nat):Int)).toNat:Nat):Int)=_ by rw [e3,wrap_u64 (by omega) (by omega)])
theorem shl64 {a k:Nat} (hk:k≤64) (h:a*2 ^ k<2 ^ 64):bopD Try.prog .shl 70 (.int .u64 (a:Int)) (.int .i64 (k:Int))=some (.int .u64 ((a*2 ^ k:Nat):Int)):=by
  rw [bop_int]
  simp only [intS,IntKind.bits]
  rw [if_neg (by omega),Int.toNat_natCast,Nat.min_eq_left hk]
  have e:(a:Int)*2 ^ k=((a*2 ^ k:Nat):Int):=by simp
  rw [e,wrap_u64 (by omega) (by omega)]
theorem vgo_cons (x:UInt8) (l:List UInt8) (i acc:Nat):vgo (x :: l) i acc=if (i=9∧1<x.toNat)∨(0<i∧x.toNat=0) then .error 10 else if x.toNat<128 then .ok (acc+x.toNat % 128*2 ^ (7*i),i+1) else vgo l (i+1) (acc+x.toNat % 128*2 ^ (7*i)):=rfl
def vread (bs:List UInt8) (i:Nat):Nat×Nat×Int :=
  match vgo (bs.drop i) 0 0 with
  | .ok (n,j)=>(n,i+j,0)
  | .error e=>(0,0,e)
def tup3 (r:Nat×Nat×Int):Value:=.tuple #[.int .u64 (r.1:Int),.int .i64 (r.2.1:Int),.int .i64 r.2.2]
theorem c74 {n m:Nat} {s:SH} (bs:List UInt8) (i:Nat) (hi:i≤bs.length) (hb:bs.length<2 ^ 62):callD Try.prog AT (n+1) (.fn 74) [sl by' m bs,.int .i64 (i:Int)] s=some [(tup3 (vread bs i),s)]:=by
  rw [call_fn (fn:=Try.f74) rfl rfl (by kernel_rfl)]
  suffices h:One (bodyD Try.prog false (callD Try.prog AT n) AT.N 74 Try.f74 [sl by' m bs,.int .i64 (i:Int)] s) fun v s'=>v=tup3 (vread bs i)∧s'=s by
    obtain ⟨v,s',e,rfl,rfl⟩:=h
    exact e
  rw [f74_r]
  have h1:¬ ((i:Int)<0):=by omega
  have h2:¬ ((i:Int)>bs.length):=by omega
  obtain ⟨m',hs⟩:=slc_from (P:=Try.prog) (s:=s) (t:=35) (m:=m) (k:=.i64) (xs:=bs) u35 z5 by_len hi
  simp only [f74,o_bool,o_alloc,o_box,o_build,o_buildSlice,o_load,o_store,o_nilCheck,o_bop,o_uop,o_conv,o_slc,o_fieldAddr,o_field,o_indexAddr,o_index,o_extract,o_lookup,o_mapUpdate,o_makeMap,o_mapEntry,o_entryStore,o_delete,o_len,o_append,o_min,o_max,o_tgt,bindS,many1,jnE,boolS,gdB,fst',snd',bop_lss,h1,decide_false,condF,len_sl u35,bop_gtr,h2,hs]
  have hlen:(bs.drop i).length<2 ^ 62:=by rw [List.length_drop]; omega
  unfold vread
  generalize bs.drop i=l at hlen
  refine list_one l (fun k (x:Value×Value×Value×Value×Value×Value×Value×Value) (s':SH)=>s=s'∧x.2.2.2.2.2.2.1=.int .i64 k∧k≤9∧∃ acc:Nat,x.2.2.2.1=.int .u64 (acc:Int)∧acc<2 ^ (7*k)∧vgo l 0 0=vgo (l.drop k) k acc) ?_ ?_ ⟨rfl,rfl,by omega,0,rfl,by decide,rfl⟩ (by show l.length<2 ^ 64; omega)
  · rintro k hk ⟨x1,x2,x3,x4,x5,x6,x7,x8⟩ s' ⟨rfl,g1,g2,acc,g3,g4,g5⟩ nx hnx
    simp only at g1 g3
    subst g1 g3
    have hlt:(k:Int)<l.length:=by omega
    have hw:IntKind.i64.wrap ((k:Int)+1)=((k+1:Nat):Int):=by rw [wrap_i64 (by omega) (by omega)]; rfl
    have hd:l.drop k=l[k] :: l.drop (k+1):=List.drop_eq_getElem_cons hk
    rw [hd] at g5
    have hb8:l[k].toNat<256:=l[k].toNat_lt
    simp only [f74_l0,o_bool,o_alloc,o_box,o_build,o_buildSlice,o_load,o_store,o_nilCheck,o_bop,o_uop,o_conv,o_slc,o_fieldAddr,o_field,o_indexAddr,o_index,o_extract,o_lookup,o_mapUpdate,o_makeMap,o_mapEntry,o_entryStore,o_delete,o_len,o_append,o_min,o_max,o_tgt,bindS,many1,jnE,boolS,gdB,fst',snd',bop_lss,hlt,decide_true,condT,ixs35 by_len hk,ld_by,bop_eql,bop_gtr]
    generalize l[k]=x at g5 hb8
    rw [vgo_cons] at g5
    -- is it one that may not be?
    have err:(k=9∧1<x.toNat)∨(0<k∧x.toNat=0)→vgo l 0 0=.error 10:=fun h=>by rw [g5,if_pos h]
    by_cases k9:k=9
    · have k9':(k:Int)=9:=by omega
      by_cases x1':1<x.toNat
      · have x1'':(x.toNat:Int)>1:=by omega
        simp only [k9',x1'',decide_true,condT]
        exact One.ret ⟨by rw [err (.inl ⟨k9,x1'⟩)]; rfl,rfl⟩
      · have x1'':¬ ((x.toNat:Int)>1):=by omega
        have k0:(k:Int)>0:=by omega
        by_cases x0:x.toNat=0
        · have x0':(x.toNat:Int)=0:=by omega
          simp only [k9',x1'',decide_true,decide_false,condT,condF,show ((9:Int)>0) from by decide,x0',o_bool,o_alloc,o_box,o_build,o_buildSlice,o_load,o_store,o_nilCheck,o_bop,o_uop,o_conv,o_slc,o_fieldAddr,o_field,o_indexAddr,o_index,o_extract,o_lookup,o_mapUpdate,o_makeMap,o_mapEntry,o_entryStore,o_delete,o_len,o_append,o_min,o_max,o_tgt,bindS,many1,jnE,boolS,gdB,fst',snd',bop_gtr,bop_eql,boolS]
          exact One.ret ⟨by rw [err (.inr ⟨by omega,x0⟩)]; rfl,rfl⟩
        · have x0':¬ ((x.toNat:Int)=0):=by omega
          have hx1:x.toNat=1:=by omega
          have x128:((1:Int)<128):=by decide
          have hno:¬ ((k=9∧1<x.toNat)∨(0<k∧x.toNat=0)):=by rintro (⟨_,h⟩ | ⟨_,h⟩) <;> omega
          rw [if_neg hno,if_pos (by omega)] at g5
          subst k9
          have hw7:IntKind.i64.wrap (7*((9:Nat):Int))=((63:Nat):Int):=by decide
          have hconv:IntKind.u64.wrap (((x.toNat % 128:Nat):Int))=((x.toNat % 128:Nat):Int):=wrap_u64 (by omega) (by omega)
          have hsm:x.toNat % 128*2 ^ 63<2 ^ 64:=by rw [hx1]; decide
          have hlx:(x.toNat:Int)<128:=by omega
          have hadd:IntKind.i64.wrap (IntKind.i64.wrap ((i:Int)+((9:Nat):Int))+1)=((i+(9+1):Nat):Int):=by rw [wrap_i64 (n:=(i:Int)+((9:Nat):Int)) (by omega) (by omega),wrap_i64 (by omega) (by omega)]; omega
          have k0':(((9:Nat):Int)>0):=by decide
          have k9'':decide (((9:Nat):Int)=9)=true:=by decide
          simp only [k9'',x1'',x0',k0',decide_true,decide_false,condT,condF,o_bool,o_alloc,o_box,o_build,o_buildSlice,o_load,o_store,o_nilCheck,o_bop,o_uop,o_conv,o_slc,o_fieldAddr,o_field,o_indexAddr,o_index,o_extract,o_lookup,o_mapUpdate,o_makeMap,o_mapEntry,o_entryStore,o_delete,o_len,o_append,o_min,o_max,o_tgt,bindS,many1,jnE,boolS,gdB,fst',snd',bop_gtr,bop_eql,boolS,and127,conv_int u5 u70,hconv,bop_mul,hw7,shl64 (show 63≤64 by decide) hsm,or64 g4 (show 63≤64 by decide) hsm,bop_lss,hlx,bop_add,hadd]
          exact One.ret ⟨by rw [g5]; rfl,rfl⟩
    · have k9':¬ ((k:Int)=9):=by omega
      have hw7:IntKind.i64.wrap (7*(k:Int))=((7*k:Nat):Int):=by rw [wrap_i64 (by omega) (by omega)]; omega
      have hconv:IntKind.u64.wrap (((x.toNat % 128:Nat):Int))=((x.toNat % 128:Nat):Int):=wrap_u64 (by omega) (by omega)
      have hp:(2:Nat) ^ (7*k)≤2 ^ (7*8):=Nat.pow_le_pow_right (by decide) (by omega)
      have hsm:x.toNat % 128*2 ^ (7*k)<2 ^ 64:=by
        calc x.toNat % 128*2 ^ (7*k)≤127*2 ^ (7*8):=Nat.mul_le_mul (by omega) hp
          _<2 ^ 64:=by decide
      have hadd:IntKind.i64.wrap (IntKind.i64.wrap ((i:Int)+(k:Int))+1)=((i+(k+1):Nat):Int):=by rw [wrap_i64 (n:=(i:Int)+(k:Int)) (by omega) (by omega),wrap_i64 (by omega) (by omega)]; omega
      have hacc:acc+x.toNat % 128*2 ^ (7*k)<2 ^ (7*(k+1)):=by
        rw [pow7,Nat.mul_comm (2 ^ (7*k)) 128]
        calc acc+x.toNat % 128*2 ^ (7*k)<2 ^ (7*k)+x.toNat % 128*2 ^ (7*k):=Nat.add_lt_add_right g4 _
          _=(1+x.toNat % 128)*2 ^ (7*k):=by rw [Nat.add_mul,Nat.one_mul]
          _≤128*2 ^ (7*k):=Nat.mul_le_mul_right _ (by omega)
      -- on
      have on:¬ (0<k∧x.toNat=0)→One (bif decide ((x.toNat:Int)<128) then some [(Value.tuple #[.int .u64 ((acc+x.toNat % 128*2 ^ (7*k):Nat):Int),.int .i64 ((i+(k+1):Nat):Int),.int .i64 0],s)] else nx (x1,x2,x3,.int .u64 ((acc+x.toNat % 128*2 ^ (7*k):Nat):Int),.int .i64 (k:Int),.int .u8 (x.toNat:Int),.int .i64 ((k+1:Nat):Int),.bool false) s) (fun v s'=>v=tup3 (match vgo l 0 0 with | .ok (n,j)=>(n,i+j,0) | .error e=>(0,0,e))∧s'=s):=by
        intro h0
        have hno:¬ ((k=9∧1<x.toNat)∨(0<k∧x.toNat=0)):=fun h=>h.elim (fun h=>k9 h.1) h0
        rw [if_neg hno] at g5
        by_cases hlx:x.toNat<128
        · rw [if_pos hlx] at g5
          rw [decide_eq_true (show (x.toNat:Int)<128 by omega),condT]
          exact One.ret ⟨by rw [g5]; rfl,rfl⟩
        · rw [if_neg hlx] at g5
          rw [decide_eq_false (show ¬ (x.toNat:Int)<128 by omega),condF]
          exact hnx (_,_,_,_,_,_,_,_) _ ⟨rfl,rfl,by omega,_,rfl,hacc,g5⟩
      by_cases k0:0<k
      · have k0':(k:Int)>0:=by omega
        by_cases x0:x.toNat=0
        · have x0':(x.toNat:Int)=0:=by omega
          simp only [k9',k0',x0',decide_true,decide_false,condT,condF,o_bool,o_alloc,o_box,o_build,o_buildSlice,o_load,o_store,o_nilCheck,o_bop,o_uop,o_conv,o_slc,o_fieldAddr,o_field,o_indexAddr,o_index,o_extract,o_lookup,o_mapUpdate,o_makeMap,o_mapEntry,o_entryStore,o_delete,o_len,o_append,o_min,o_max,o_tgt,bindS,many1,jnE,boolS,gdB,fst',snd',bop_gtr,bop_eql,boolS]
          exact One.ret ⟨by rw [err (.inr ⟨k0,x0⟩)]; rfl,rfl⟩
        · have x0':¬ ((x.toNat:Int)=0):=by omega
          simp only [k9',k0',x0',decide_true,decide_false,condT,condF,o_bool,o_alloc,o_box,o_build,o_buildSlice,o_load,o_store,o_nilCheck,o_bop,o_uop,o_conv,o_slc,o_fieldAddr,o_field,o_indexAddr,o_index,o_extract,o_lookup,o_mapUpdate,o_makeMap,o_mapEntry,o_entryStore,o_delete,o_len,o_append,o_min,o_max,o_tgt,bindS,many1,jnE,boolS,gdB,fst',snd',bop_gtr,bop_eql,boolS,and127,conv_int u5 u70,hconv,bop_mul,hw7,shl64 (show 7*k≤64 by omega) hsm,or64 g4 (show 7*k≤64 by omega) hsm,bop_lss,bop_add,hadd,hw]
          exact on (fun h=>x0 h.2)
      · have k0':¬ ((k:Int)>0):=by omega
        simp only [k9',k0',decide_true,decide_false,condT,condF,o_bool,o_alloc,o_box,o_build,o_buildSlice,o_load,o_store,o_nilCheck,o_bop,o_uop,o_conv,o_slc,o_fieldAddr,o_field,o_indexAddr,o_index,o_extract,o_lookup,o_mapUpdate,o_makeMap,o_mapEntry,o_entryStore,o_delete,o_len,o_append,o_min,o_max,o_tgt,bindS,many1,jnE,boolS,gdB,fst',snd',bop_gtr,bop_eql,boolS,and127,conv_int u5 u70,hconv,bop_mul,hw7,shl64 (show 7*k≤64 by omega) hsm,or64 g4 (show 7*k≤64 by omega) hsm,bop_lss,bop_add,hadd,hw]
        exact on (fun h=>k0 h.1)
  · rintro ⟨x1,x2,x3,x4,x5,x6,x7,x8⟩ s' ⟨rfl,g1,g2,acc,g3,g4,g5⟩ nx
    simp only at g1 g3
    subst g1 g3
    have hnlt:¬ ((l.length:Int)<l.length):=by omega
    rw [List.drop_length] at g5
    simp only [f74_l0,o_bool,o_alloc,o_box,o_build,o_buildSlice,o_load,o_store,o_nilCheck,o_bop,o_uop,o_conv,o_slc,o_fieldAddr,o_field,o_indexAddr,o_index,o_extract,o_lookup,o_mapUpdate,o_makeMap,o_mapEntry,o_entryStore,o_delete,o_len,o_append,o_min,o_max,o_tgt,bindS,many1,jnE,boolS,gdB,fst',snd',bop_lss,hnlt,decide_false,condF,beq_yes,condT]
    exact One.ret ⟨by rw [g5]; rfl,rfl⟩
end Go.Proofs.Ytmhmbmogodofeaa.S
set_option autoImplicit false
set_option linter.unusedVariables false
set_option linter.unusedSimpArgs false
namespace Go.Proofs.Ytmhmbmogodofeaa.S
open Go.FS Go.RowKit
theorem vread_ok {bs:List UInt8} {i:Nat} (hi:i≤bs.length) (h:(vread bs i).2.2=0):∃ y,(vread bs i).1=y∧y<2 ^ 64∧i<(vread bs i).2.1∧(vread bs i).2.1≤bs.length∧(bs.take (vread bs i).2.1).drop i=vput y:=by
  unfold vread at h ⊢
  cases hv:vgo (bs.drop i) 0 0 with
  | error e =>
    rw [hv] at h
    exfalso
    have:∀ (l:List UInt8) (k acc:Nat) (e:Int),vgo l k acc=.error e→e≠0:=by
      intro l
      induction l with
      | nil=>intro k acc e h; unfold vgo at h; injection h with h; omega
      | cons x l ih =>
        intro k acc e h
        unfold vgo at h
        split at h
        · injection h with h; omega
        · split at h
          · cases h
          · exact ih _ _ _ h
    exact this _ _ _ _ hv h
  | ok p =>
    obtain ⟨n,j⟩:=p
    obtain ⟨y,k1,k2,k3,k4,k5,k6⟩:=vgo_ok _ _ _ _ _ (by omega) hv
    simp only [Nat.mul_zero,Nat.pow_zero,Nat.mul_one,Nat.zero_add] at k4 k5
    rw [List.length_drop] at k2
    refine ⟨y,k4,k5,by show i<i+j; omega,by show i+j≤_; omega,?_⟩
    show (bs.take (i+j)).drop i=_
    rw [← k3,Nat.sub_zero,List.drop_take]
    congr 1; omega
def At (bs:List UInt8) (i:Nat) (l:List UInt8) (j:Nat):Prop:=j=i+l.length∧i≤bs.length∧∃ r,bs.drop i=l++r
section at_
variable {bs a b l:List UInt8} {i j k:Nat}
theorem At.le (h:At bs i l j):i≤j∧j≤bs.length:=by
  obtain ⟨rfl,h1,r,h2⟩:=h
  have:=congrArg List.length h2
  rw [List.length_drop,List.length_append] at this; omega
theorem At.nil (h:i≤bs.length):At bs i [] i:=⟨rfl,h,_,rfl⟩
theorem At.app (h:At bs i a j) (g:At bs j b k):At bs i (a++b) k:=by
  obtain ⟨rfl,h1,r,h2⟩:=h
  obtain ⟨rfl,g1,r',g2⟩:=g
  refine ⟨by rw [List.length_append]; omega,h1,r',?_⟩
  rw [← List.drop_drop,h2,List.drop_left] at g2
  rw [h2,g2,List.append_assoc]
theorem At.split (h:At bs i (a++b) k):∃ j,At bs i a j∧At bs j b k:=by
  obtain ⟨rfl,h1,r,h2⟩:=h
  have:=congrArg List.length h2
  rw [List.length_drop,List.length_append,List.length_append] at this
  refine ⟨i+a.length,⟨rfl,h1,b++r,by rw [h2,List.append_assoc]⟩,by rw [List.length_append]; omega,by omega,r,?_⟩
  rw [← List.drop_drop,h2,List.append_assoc,List.drop_left]
theorem At.of_take (hi:i≤j) (hj:j≤bs.length) (h:(bs.take j).drop i=l):At bs i l j:=by
  subst h
  refine ⟨by rw [List.length_drop,List.length_take]; omega,by omega,bs.drop j,?_⟩
  have e:bs.drop j=(bs.drop i).drop (j-i):=by rw [List.drop_drop]; congr 1; omega
  rw [List.drop_take,e,List.take_append_drop]
theorem At.take (h:At bs i l j):(bs.take j).drop i=l:=by
  obtain ⟨rfl,h1,r,h2⟩:=h
  rw [List.drop_take,h2,Nat.add_sub_cancel_left,List.take_left]
theorem At.all (l:List UInt8):At l 0 l l.length:=⟨by simp,by omega,[],by simp⟩
theorem vread_at {x:Nat} (h:At bs i (vput x) j) (hx:x<2 ^ 64):vread bs i=(x,j,0):=by
  obtain ⟨rfl,h1,r,h2⟩:=h
  unfold vread
  rw [h2,vgo_put r x x 0 0 (Nat.le_refl _) (by simpa using hx) (by omega) (fun h=>by omega)]
  simp
theorem vread_at' (hi:i≤bs.length) (h:(vread bs i).2.2=0):At bs i (vput (vread bs i).1) (vread bs i).2.1∧(vread bs i).1<2 ^ 64:=by
  obtain ⟨y,h1,h2,h3,h4,h5⟩:=vread_ok hi h
  rw [h1]
  exact ⟨At.of_take (by omega) h4 h5,h2⟩
end at_
abbrev MT:Nat:=35184372088832
def twoF (b:List UInt8) (i:Nat):Option (Nat×Nat×Nat) :=
  if (vread b i).2.2=0 then if (vread b (vread b i).2.1).2.2=0 then some ((vread b i).1,(vread b (vread b i).2.1).1,(vread b (vread b i).2.1).2.1) else none else none
theorem twoF_at {b:List UInt8} {i j x y:Nat} (h:At b i (vput x++vput y) j) (hx:x<2 ^ 64) (hy:y<2 ^ 64):twoF b i=some (x,y,j):=by
  obtain ⟨k,h1,h2⟩:=h.split
  unfold twoF
  rw [vread_at h1 hx]
  simp only [if_true]
  rw [vread_at h2 hy]
  simp only [if_true]
theorem twoF_ok {b:List UInt8} {i j x y:Nat} (hi:i≤b.length) (h:twoF b i=some (x,y,j)):At b i (vput x++vput y) j∧x<2 ^ 64∧y<2 ^ 64∧i<j∧j≤b.length:=by
  unfold twoF at h
  split at h
  · next h1 =>
    split at h
    · next h2 =>
      obtain ⟨a1,a2⟩:=vread_at' hi h1
      obtain ⟨b1,b2⟩:=vread_at' a1.le.2 h2
      injection h with h
      injection h with e1 h
      injection h with e2 e3
      subst e1 e2 e3
      have:=vput_pos (vread b i).1
      have l1:=a1.1
      have:=b1.le
      exact ⟨a1.app b1,a2,b2,by omega,by omega⟩
    · cases h
  · cases h
def rdS (b:List UInt8):Nat→Bool→Nat→Nat→Option (List (Nat×Nat)×Nat)
  | 0,_,at_,_=>some ([],at_)
  | n+1,first,at_,to=>(twoF b at_).bind fun q =>
    if MT<q.1∨MT<q.2.1∨MT<to+q.1+q.2.1∨(first=false∧q.1<2) then none
    else (rdS b n false q.2.2 (to+q.1+q.2.1)).map fun r=>((to+q.1,to+q.1+q.2.1) :: r.1,r.2)
def rdE (b:List UInt8):Nat→Nat→Nat→Option (List (Nat×List (Nat×Nat))×Nat)
  | 0,at_,_=>some ([],at_)
  | n+1,at_,last=>(twoF b at_).bind fun q =>
    if q.1=0∨2 ^ 64≤last+q.1∨q.2.1=0 then none
    else (rdS b q.2.1 true q.2.2 0).bind fun r=>(rdE b n r.2 (last+q.1)).map fun t=>((last+q.1,r.1) :: t.1,t.2)
def readT (b:List UInt8) (i:Nat):Option (List (Nat×List (Nat×Nat))×Nat) :=
  if (vread b i).2.2=0 then rdE b (vread b i).1 (vread b i).2.1 0 else none
def spB:Nat→List (Nat×Nat)→List UInt8
  | _,[]=>[]
  | to,x :: l=>vput (x.1-to)++vput (x.2-x.1)++spB x.2 l
def enB:Nat→List (Nat×List (Nat×Nat))→List UInt8
  | _,[]=>[]
  | last,e :: l=>vput (e.1-last)++vput e.2.length++spB 0 e.2++enB e.1 l
def allB (L:List (Nat×List (Nat×Nat))):List UInt8:=vput L.length++enB 0 L
def SpOk:Bool→Nat→List (Nat×Nat)→Prop
  | _,_,[]=>True
  | first,to,x :: l=>to≤x.1∧(first=false→to+2≤x.1)∧x.1≤x.2∧x.2≤MT∧SpOk false x.2 l
def EnOk:Nat→List (Nat×List (Nat×Nat))→Prop
  | _,[]=>True
  | last,e :: l=>last<e.1∧e.1<2 ^ 64∧e.2≠[]∧e.2.length<2 ^ 64∧SpOk true 0 e.2∧EnOk e.1 l
theorem rdS_at {b:List UInt8}:∀ (l:List (Nat×Nat)) (first:Bool) (i to j:Nat),SpOk first to l→At b i (spB to l) j→rdS b l.length first i to=some (l,j)
  | [],_,i,_,j,_,h=>by obtain ⟨rfl,_,_⟩:=h; rfl
  | x :: l,first,i,to,j,ho,h=>by
    obtain ⟨o1,o2,o3,o4,o5⟩:=ho
    unfold spB at h
    obtain ⟨k,h1,h2⟩:=h.split
    have hMT:MT=35184372088832:=rfl
    have e:=twoF_at h1 (by omega) (by omega)
    show (twoF b i).bind _=_
    rw [e]
    simp only [Option.bind_some]
    have e1:to+(x.1-to)=x.1:=by omega
    have e2:to+(x.1-to)+(x.2-x.1)=x.2:=by omega
    rw [if_neg (by
      rintro (q | q | q | ⟨q1,q2⟩)
      · omega
      · omega
      · omega
      · have:=o2 q1; omega),e2,e1,rdS_at l false k x.2 j o5 h2]
    rfl
theorem rdS_ok {b:List UInt8}:∀ (n:Nat) (first:Bool) (i to:Nat) (l:List (Nat×Nat)) (j:Nat),i≤b.length→rdS b n first i to=some (l,j)→At b i (spB to l) j∧l.length=n∧SpOk first to l
  | 0,_,i,_,l,j,hi,h=>by
    unfold rdS at h
    injection h with h
    injection h with h1 h2
    subst h1 h2
    exact ⟨At.nil hi,rfl,trivial⟩
  | n+1,first,i,to,l,j,hi,h=>by
    unfold rdS at h
    cases hq:twoF b i with
    | none=>rw [hq] at h; cases h
    | some q =>
      obtain ⟨x,y,k⟩:=q
      rw [hq] at h
      simp only [Option.bind_some] at h
      split at h
      · cases h
      · next hc =>
        obtain ⟨a1,a2,a3,a4,a5⟩:=twoF_ok hi hq
        cases hr:rdS b n false k (to+x+y) with
        | none=>rw [hr] at h; cases h
        | some r =>
          obtain ⟨l',j'⟩:=r
          rw [hr] at h
          injection h with h
          injection h with h1 h2
          subst h1 h2
          obtain ⟨b1,b2,b3⟩:=rdS_ok n false k (to+x+y) l' j' a5 hr
          refine ⟨?_,by rw [List.length_cons,b2],?_⟩
          · unfold spB
            rw [show to+x-to=x from by omega,show to+x+y-(to+x)=y from by omega]
            exact a1.app b1
          · refine ⟨by simp only []; omega,fun hf=>?_,by simp only []; omega,?_,b3⟩
            · simp only []
              rcases Nat.lt_or_ge x 2 with hx | hx
              · exact absurd (.inr (.inr (.inr ⟨hf,hx⟩))) hc
              · omega
            · simp only []
              rcases Nat.lt_or_ge MT (to+x+y) with hx | hx
              · exact absurd (.inr (.inr (.inl hx))) hc
              · exact hx
theorem rdE_at {b:List UInt8}:∀ (L:List (Nat×List (Nat×Nat))) (i last j:Nat),EnOk last L→At b i (enB last L) j→rdE b L.length i last=some (L,j)
  | [],i,_,j,_,h=>by obtain ⟨rfl,_,_⟩:=h; rfl
  | e :: L,i,last,j,ho,h=>by
    obtain ⟨o1,o2,o3,o3',o4,o5⟩:=ho
    unfold enB at h
    obtain ⟨k,h1,h2⟩:=h.split
    obtain ⟨k1,h3,h4⟩:=h1.split
    show (twoF b i).bind _=_
    rw [twoF_at h3 (by omega) o3']
    simp only [Option.bind_some]
    have e1:last+(e.1-last)=e.1:=by omega
    rw [if_neg (by
      rintro (q | q | q)
      · omega
      · omega
      · exact o3 (List.length_eq_zero_iff.1 q)),rdS_at e.2 true k1 0 k o4 h4]
    simp only [Option.bind_some]
    rw [e1,rdE_at L k e.1 j o5 h2]
    rfl
theorem rdE_ok {b:List UInt8}:∀ (n i last:Nat) (L:List (Nat×List (Nat×Nat))) (j:Nat),i≤b.length→rdE b n i last=some (L,j)→At b i (enB last L) j∧L.length=n∧EnOk last L
  | 0,i,_,L,j,hi,h=>by
    unfold rdE at h
    injection h with h
    injection h with h1 h2
    subst h1 h2
    exact ⟨At.nil hi,rfl,trivial⟩
  | n+1,i,last,L,j,hi,h=>by
    unfold rdE at h
    cases hq:twoF b i with
    | none=>rw [hq] at h; cases h
    | some q =>
      obtain ⟨x,y,k⟩:=q
      rw [hq] at h
      simp only [Option.bind_some] at h
      split at h
      · cases h
      · next hc =>
        obtain ⟨a1,a2,a3,a4,a5⟩:=twoF_ok hi hq
        cases hr:rdS b y true k 0 with
        | none=>rw [hr] at h; cases h
        | some r =>
          obtain ⟨l',j'⟩:=r
          rw [hr] at h
          simp only [Option.bind_some] at h
          obtain ⟨b1,b2,b3⟩:=rdS_ok y true k 0 l' j' a5 hr
          cases ht:rdE b n j' (last+x) with
          | none=>rw [ht] at h; cases h
          | some t =>
            obtain ⟨L',j2⟩:=t
            rw [ht] at h
            injection h with h
            injection h with h1 h2
            subst h1 h2
            obtain ⟨c1,c2,c3⟩:=rdE_ok n j' (last+x) L' j2 b1.le.2 ht
            refine ⟨?_,by rw [List.length_cons,c2],?_⟩
            · unfold enB
              simp only []
              rw [show last+x-last=x from by omega,b2]
              exact (a1.app b1).app c1
            · refine ⟨?_,?_,?_,by simp only []; omega,b3,c3⟩
              · simp only []
                rcases Nat.eq_zero_or_pos x with hx | hx
                · exact absurd (.inl hx) hc
                · omega
              · simp only []
                rcases Nat.lt_or_ge (last+x) (2 ^ 64) with hx | hx
                · exact hx
                · exact absurd (.inr (.inl hx)) hc
              · rintro rfl
                exact absurd (.inr (.inr b2.symm)) hc
theorem readT_at {L:List (Nat×List (Nat×Nat))} (hL:EnOk 0 L) (hn:L.length<2 ^ 64):readT (allB L) 0=some (L,(allB L).length):=by
  have h:=At.all (allB L)
  obtain ⟨k,h1,h2⟩:=At.split (a:=vput L.length) (b:=enB 0 L) h
  unfold readT
  rw [vread_at h1 hn]
  simp only [if_true]
  exact rdE_at L k 0 _ hL h2
theorem readT_ok {b:List UInt8} {L:List (Nat×List (Nat×Nat))} {j:Nat} (h:readT b 0=some (L,j)):b.take j=allB L∧j≤b.length∧EnOk 0 L:=by
  unfold readT at h
  split at h
  · next h0 =>
    obtain ⟨a1,a2⟩:=vread_at' (Nat.zero_le _) h0
    obtain ⟨b1,b2,b3⟩:=rdE_ok _ _ _ _ _ a1.le.2 h
    have:=(a1.app b1).take
    rw [List.drop_zero] at this
    exact ⟨by rw [this]; unfold allB; rw [b2],b1.le.2,b3⟩
  · cases h
end Go.Proofs.Ytmhmbmogodofeaa.S
