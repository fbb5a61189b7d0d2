import Derived.Test.YtmhmbmogodofeaaV
import Derived.Test.YtmhmbmogodofeaaCA
set_option linter.unusedVariables false
set_option linter.unusedSimpArgs false
set_option maxRecDepth 100000
namespace Go.Proofs.Ytmhmbmogodofeaa.S
open Go.FS Go.RowKit
open Go.Proofs.Try (prog)
attribute [local congr] bind_cg cond_cg gd_cg
def by' (b:UInt8):List Value:=[.int .u8 (b.toNat:Int)]
theorem by_len (b:UInt8):(by' b).length=1:=rfl
theorem by_str (n k:Nat) (b:UInt8):(by' b).map (stripN (k+1) n)=by' b:=rfl
theorem by_bel (n:Nat) (b:UInt8):∀ v∈by' b,Bel n v:=fun v hv=>by
 simp only [by',List.mem_cons,List.not_mem_nil,or_false] at hv
 subst hv; exact .int _ _
theorem gapp35 {lo:Nat} {s:SH} {v:Value} {m2:Nat} {xs ys:List UInt8} (h:Grow lo 1 by' s v xs) (hlo:lo≤s.n) (hb:xs.length+ys.length≤140737488355328) :
 ∃ v' s',appD prog false s 35 35 v (sl by' m2 ys)=some (v',s')∧Grow lo 1 by' s' v' (xs++ys)∧Sm lo s s'∧(∀ j,j<s.n→HP.get s.h j≠some (.tok xs.length 1)→HP.get s'.h j=HP.get s.h j) :=
 h.app (i:=Try.t5) hlo u35 u35 (by kernel_rfl) zr5 rfl (by kernel_rfl) (by kernel_rfl) (by decide) by_len (show (xs.length+ys.length)*1≤_ by omega) hb
theorem bs35 (s:SH) (b:UInt8):buildSliceD prog false s 35 1 [(0,.int .u8 (b.toNat:Int))]=some (sl by' 1 [b],s):=by kernel_rfl
theorem bs35_0 (s:SH):buildSliceD prog false s 35 0 []=some (sl by' 1 [],s):=by kernel_rfl
theorem mk35 (s:SH) (c:Int) (h0:0≤c) (h1:c≤140737488355328):makeSliceD prog false s 35 (.int .i64 0) (.int .i64 c)=some (sl by' (s.n+3) [],newD s (.tok 0 1)):=by
 have hi:prog.info? 5=some Try.t5:=by kernel_rfl
 have hb:(Try.t5.bytes:Nat)=1:=by kernel_rfl
 have hs:(Try.t5.size:Nat)=1:=by kernel_rfl
 unfold makeSliceD
 rw [u35]
 simp only [hi,bindS,zr5,hb,hs]
 have e:(decide ((0:Int)≤0)&&decide ((0:Int)≤c)&&decide (((1:Nat):Int)*c≤140737488355328)&&decide (c≤140737488355328)&&Nat.beq [Value.int .u8 0].length 1)=true:=by
  rw [decide_eq_true h0,decide_eq_true (show ((1:Nat):Int)*c≤140737488355328 by omega),decide_eq_true h1]; rfl
 rw [e,condT]
 rfl
theorem wrap_u8 (y:Nat):IntKind.u8.wrap (y:Int)=(((UInt8.ofNat y).toNat:Nat):Int):=by
 rw [wrap_us rfl,UInt8.toNat_ofNat']
 exact (Int.natCast_emod y 256).symm
theorem or128 (y:Nat):bopD prog .or 5 (.int .u8 (((UInt8.ofNat y).toNat:Nat):Int)) (.int .u8 128)=some (.int .u8 (((UInt8.ofNat (y % 128+128)).toNat:Nat):Int)):=by
 rw [bop_int]
 have hlt:(UInt8.ofNat y).toNat<256:=UInt8.toNat_lt _
 have key:∀ k:Fin 256,IntKind.u8.wrap (((BitVec.ofInt 8 (k.val:Int) ||| BitVec.ofInt 8 128).toNat:Nat):Int)=((k.val % 128+128:Nat):Int):=by decide +kernel
 have this:IntKind.u8.wrap (((BitVec.ofInt 8 ((UInt8.ofNat y).toNat:Int) ||| BitVec.ofInt 8 128).toNat:Nat):Int)=(((UInt8.ofNat y).toNat % 128+128:Nat):Int):=key ⟨_,hlt⟩
 refine Eq.trans (congrArg (fun z=>some (Value.int IntKind.u8 z)) this) ?_
 have e:(UInt8.ofNat (y % 128+128)).toNat=y % 128+128:=ofNat_toNat (by omega)
 rw [e,UInt8.toNat_ofNat']
 congr 3; omega
theorem shr7 (y:Nat):bopD prog .shr 70 (.int .u64 (y:Int)) (.int .u64 7)=some (.int .u64 ((y / 128:Nat):Int)):=by
 rw [bop_int]
 simp only [intS]
 rw [if_neg (by decide)]
 have e:((2:Int)^min (Int.toNat 7) IntKind.u64.bits)=((128:Nat):Int):=by decide
 rw [e,← Int.ofNat_fdiv]
theorem c124 {n:Nat} {s:SH} (x:Nat):callD prog AT (n+1) (.fn 124) [.int .u64 (x:Int)] s=some [(.int .u64 (x:Int),s)]:=by
 refine cut_call (fn:=Try.f124) rfl rfl (by kernel_rfl) (v:=.int .u64 (x:Int)) (fun _ h=>by cases h) (.int _ _) ?_
 show One (bodyD prog false _ _ 124 Try.f124 _ s) _
 rw [f124_r]
 exact One.ret ⟨rfl,.refl s⟩
theorem c123 {n m:Nat} {s:SH} (bs:List UInt8) (x:Nat) (hx:x<2^64) (hb:bs.length+20≤140737488355328) :
 ∃ v s',callD prog AT (n+2) (.fn 123) [sl by' m bs,.int .u64 (x:Int),.func (.func 124) #[] #[]] s=some [(v,s')]∧Grow s.n 1 by' s' v (bs++vput x)∧Sm s.n s s':=by
 rw [call_fn (fn:=Try.f123) rfl rfl (by kernel_rfl)]
 suffices h:One (bodyD prog false (callD prog AT (n+1)) AT.N 123 Try.f123 [sl by' m bs,.int .u64 (x:Int),.func (.func 124) #[] #[]] s) fun v s'=>Grow s.n 1 by' s' v (bs++vput x)∧Sm s.n s s' by
  obtain ⟨v,s',e,h1,h2⟩:=h
  exact ⟨v,s',e,h1,h2⟩
 rw [f123_r]
 have hw:IntKind.i64.wrap ((bs.length:Int)+10)=(bs.length:Int)+10:=wrap_i64 (by omega) (by omega)
 have g0:Grow s.n 1 by' (newD s (.tok 0 1)) (sl by' (s.n+3) []) []:=.inr ⟨s.n,Nat.le_refl _,by rw [newD_n]; omega,rfl,get_new rfl⟩
 obtain ⟨v1,s1,e1,w1,w2,w3⟩:=gapp35 (m2:=m) (ys:=bs) g0 (by rw [newD_n]; omega) (by simp only [List.length_nil]; omega)
 have hs1:Sm s.n s s1:=((Sm.refl s.n s).new (Nat.le_refl _) _).trans w2
 rw [List.nil_append] at w1
 have tg:∀ args,tgtD (.func (.func 124) #[] #[]) args=some (.fn 124,args):=fun args=>by simp [tgtD]
 simp only [f123,oO,bindS,many1,jnE,boolS,gdB,fst',snd',len_sl u35,bop_add,hw,o_makeSlice,mk35 s _ (show 0≤(bs.length:Int)+10 by omega) (by omega),e1,tg,c124]
 refine loop_rule (fun d (y:Value×Value) (s':SH)=>∃ pre,y.2=.int .u64 (d:Int)∧d≤x∧pre++vput d=vput x∧Grow s.n 1 by' s' y.1 (bs++pre)∧Sm s.n s s') (fun r=>One r fun v s'=>Grow s.n 1 by' s' v (bs++vput x)∧Sm s.n s s') ?_ _ x (v1,.int .u64 (x:Int)) s1 ⟨[],rfl,Nat.le_refl _,rfl,by rw [List.append_nil]; exact w1,hs1⟩ (by show x<2^64; exact hx)
 rintro d ⟨y1,y2⟩ s' ⟨pre,h1,h2,h3,h4,h5⟩ nx hnx
 simp only at h1 h4
 subst h1
 have hpl:pre.length≤10:=by
  have:=vput_len10 hx
  have:=congrArg List.length h3
  rw [List.length_append] at this; omega
 by_cases hd:d≤127
 · have hng:¬ ((d:Int)>127):=by omega
   obtain ⟨v2,s2,e2,z1,z2,z3⟩:=gapp35 (m2:=1) (ys:=[UInt8.ofNat d]) h4 h5.1 (by rw [List.length_append]; simp only [List.length_singleton]; omega)
   simp only [f123_l0,oO,bindS,many1,jnE,boolS,gdB,fst',snd',bop_gtr,hng,decide_false,condF,beq_yes,condT,conv_int u70 u5,wrap_u8,bs35,e2]
   refine One.ret ⟨?_,h5.trans z2⟩
   rw [← h3,vput_lo hd,← List.append_assoc]; exact z1
 · have hg:(d:Int)>127:=by omega
   obtain ⟨v2,s2,e2,z1,z2,z3⟩:=gapp35 (m2:=1) (ys:=[UInt8.ofNat (d % 128+128)]) h4 h5.1 (by rw [List.length_append]; simp only [List.length_singleton]; omega)
   simp only [f123_l0,oO,bindS,many1,jnE,boolS,gdB,fst',snd',bop_gtr,hg,decide_true,condT,conv_int u70 u5,wrap_u8,or128,bs35,e2,shr7]
   refine hnx (d / 128) (_,_) _ (by omega) ⟨pre++[UInt8.ofNat (d % 128+128)],rfl,by omega,?_,?_,h5.trans z2⟩
   · rw [← h3,vput_hi hd,List.append_assoc]; rfl
   · rw [← List.append_assoc]; exact z1
theorem c72 {n m:Nat} {s:SH} (bs:List UInt8) (x:Nat) (hx:x<2^64) (hb:bs.length+20≤140737488355328) :
 ∃ v s',callD prog AT (n+3) (.fn 72) [sl by' m bs,.int .u64 (x:Int)] s=some [(v,s')]∧Grow s.n 1 by' s' v (bs++vput x)∧Sm s.n s s':=by
 obtain ⟨v,s',e,h1,h2⟩:=c123 (n:=n) (m:=m) (s:=s) bs x hx hb
 refine ⟨v,s',?_,h1,h2⟩
 rw [call_fn (fn:=Try.f72) rfl rfl (by kernel_rfl)]
 show bodyD prog false _ _ 72 Try.f72 _ s=_
 rw [f72_r]
 simp only [f72,e,bindS,many1]
theorem Grow.form {α:Type} {lo z:Nat} {enc:α→List Value} {s:SH} {v:Value} {xs:List α} (h:Grow lo z enc s v xs):∃ m,v=sl enc m xs:=by
 rcases h with ⟨rfl,rfl | rfl⟩ | ⟨id,_,_,rfl,_⟩
 · exact ⟨2,rfl⟩
 · exact ⟨1,rfl⟩
 · exact ⟨id+3,rfl⟩
end Go.Proofs.Ytmhmbmogodofeaa.S
namespace Go.Proofs.Ytmhmbmogodofeaa.S
open Go.FS Go.RowKit
open Go.Proofs.Try (prog)
attribute [local congr] bind_cg cond_cg gd_cg
end Go.Proofs.Ytmhmbmogodofeaa.S
namespace Go.Proofs.Ytmhmbmogodofeaa.S
open Go.FS Go.RowKit
open Go.Proofs.Try (prog)
def At (bs:List UInt8) (i:Nat) (l:List UInt8) (j:Nat):Prop:=j=i+l.length∧i≤bs.length∧∃ r,bs.drop i=l++r
section at_
variable {bs a b l:List UInt8} {i j k:Nat}
theorem At.le (h:At bs i l j):i≤j∧j≤bs.length:=by
 obtain ⟨rfl,h1,r,h2⟩:=h
 have:=congrArg List.length h2
 rw [List.length_drop,List.length_append] at this; omega
theorem At.nil (h:i≤bs.length):At bs i [] i:=⟨rfl,h,_,rfl⟩
theorem At.app (h:At bs i a j) (g:At bs j b k):At bs i (a++b) k:=by
 obtain ⟨rfl,h1,r,h2⟩:=h
 obtain ⟨rfl,g1,r',g2⟩:=g
 refine ⟨by rw [List.length_append]; omega,h1,r',?_⟩
 rw [← List.drop_drop,h2,List.drop_left] at g2
 rw [h2,g2,List.append_assoc]
theorem At.split (h:At bs i (a++b) k):∃ j,At bs i a j∧At bs j b k:=by
 obtain ⟨rfl,h1,r,h2⟩:=h
 have:=congrArg List.length h2
 rw [List.length_drop,List.length_append,List.length_append] at this
 refine ⟨i+a.length,⟨rfl,h1,b++r,by rw [h2,List.append_assoc]⟩,by rw [List.length_append]; omega,by omega,r,?_⟩
 rw [← List.drop_drop,h2,List.append_assoc,List.drop_left]
theorem At.of_take (hi:i≤j) (hj:j≤bs.length) (h:(bs.take j).drop i=l):At bs i l j:=by
 subst h
 refine ⟨by rw [List.length_drop,List.length_take]; omega,by omega,bs.drop j,?_⟩
 have e:bs.drop j=(bs.drop i).drop (j-i):=by rw [List.drop_drop]; congr 1; omega
 rw [List.drop_take,e,List.take_append_drop]
theorem At.take (h:At bs i l j):(bs.take j).drop i=l:=by
 obtain ⟨rfl,h1,r,h2⟩:=h
 rw [List.drop_take,h2,Nat.add_sub_cancel_left,List.take_left]
theorem At.all (l:List UInt8):At l 0 l l.length:=⟨by simp,by omega,[],by simp⟩
end at_
abbrev MT:Nat:=35184372088832
def spB:Nat→List (Nat×Nat)→List UInt8
 | _,[]=>[]
 | to,x::l=>vput (x.1-to)++vput (x.2-x.1)++spB x.2 l
def enB:Nat→List (Nat×List (Nat×Nat))→List UInt8
 | _,[]=>[]
 | last,e::l=>vput (e.1-last)++vput e.2.length++spB 0 e.2++enB e.1 l
def allB (L:List (Nat×List (Nat×Nat))):List UInt8:=vput L.length++enB 0 L
def SpOk:Bool→Nat→List (Nat×Nat)→Prop
 | _,_,[]=>True
 | first,to,x::l=>to≤x.1∧(first=false→to+2≤x.1)∧x.1≤x.2∧x.2≤MT∧SpOk false x.2 l
def EnOk:Nat→List (Nat×List (Nat×Nat))→Prop
 | _,[]=>True
 | last,e::l=>last<e.1∧e.1<2^64∧e.2≠[]∧e.2.length<2^64∧SpOk true 0 e.2∧EnOk e.1 l
end Go.Proofs.Ytmhmbmogodofeaa.S
