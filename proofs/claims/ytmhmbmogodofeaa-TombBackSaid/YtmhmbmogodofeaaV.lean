
/- Numbers as bytes: the plain law. -/
set_option autoImplicit false
namespace Go.FS
def vput (x:Nat):List UInt8:=if x≤127 then [UInt8.ofNat x] else UInt8.ofNat (x % 128+128) :: vput (x / 128)
termination_by x
decreasing_by omega
theorem vput_lo {x:Nat} (h:x≤127):vput x=[UInt8.ofNat x]:=by rw [vput,if_pos h]
theorem vput_hi {x:Nat} (h:¬ x≤127):vput x=UInt8.ofNat (x % 128+128) :: vput (x / 128):=by rw [vput,if_neg h]
theorem vput_len:∀ (k x:Nat),x<2 ^ (7*(k+1))→(vput x).length≤k+1
  | k,x,h=>by
    by_cases hx:x≤127
    · rw [vput_lo hx]; simp
    · rw [vput_hi hx,List.length_cons]
      cases k with
      | zero=>simp at h; omega
      | succ k =>
        have e:(2:Nat) ^ (7*(k+1+1))=2 ^ (7*(k+1))*128:=by rw [show 7*(k+1+1)=7*(k+1)+7 from by omega,Nat.pow_add]
        have:=vput_len k (x / 128) (by rw [e] at h; omega)
        omega
theorem vput_len10 {x:Nat} (h:x<2 ^ 64):(vput x).length≤10:=vput_len 9 x (Nat.lt_of_lt_of_le h (by decide))
theorem vput_pos (x:Nat):0<(vput x).length:=by
  by_cases hx:x≤127
  · rw [vput_lo hx]; simp
  · rw [vput_hi hx]; simp
def vgo:List UInt8→Nat→Nat→Except Int (Nat×Nat)
  | [],_,_=>.error 7
  | x :: l,i,acc=>if (i=9∧1<x.toNat)∨(0<i∧x.toNat=0) then .error 10 else
      if x.toNat<128 then .ok (acc+x.toNat % 128*2 ^ (7*i),i+1) else vgo l (i+1) (acc+x.toNat % 128*2 ^ (7*i))
theorem pow7 (i:Nat):(2:Nat) ^ (7*(i+1))=2 ^ (7*i)*128:=by rw [show 7*(i+1)=7*i+7 from by omega,Nat.pow_add]
theorem ofNat_toNat {x:Nat} (h:x<256):(UInt8.ofNat x).toNat=x:=by
  rw [UInt8.toNat_ofNat']; exact Nat.mod_eq_of_lt h
theorem vgo_put (more:List UInt8):∀ (k y i acc:Nat),y≤k→y*2 ^ (7*i)<2 ^ 64→i≤9→(0<i→0<y)→vgo (vput y++more) i acc=.ok (acc+y*2 ^ (7*i),i+(vput y).length)
  | k,y,i,acc,hk,hy,hi,h0=>by
    by_cases hx:y≤127
    · rw [vput_lo hx]
      have e:(UInt8.ofNat y).toNat=y:=ofNat_toNat (by omega)
      show (if _ then _ else _)=_
      rw [e]
      have c:¬ ((i=9∧1<y)∨(0<i∧y=0)):=by
        rintro (⟨rfl,h⟩ | ⟨h,rfl⟩)
        · have:(2:Nat) ^ (7*9)=2 ^ 63:=by decide
          rw [this] at hy; omega
        · exact absurd (h0 h) (by omega)
      rw [if_neg c,if_pos (by omega),Nat.mod_eq_of_lt (by omega)]
      rfl
    · rw [vput_hi hx]
      have e:(UInt8.ofNat (y % 128+128)).toNat=y % 128+128:=ofNat_toNat (by omega)
      show (if _ then _ else _)=_
      rw [e]
      have hi9:i≠9:=by
        rintro rfl
        have:(2:Nat) ^ (7*9)=2 ^ 63:=by decide
        rw [this] at hy; omega
      have c:¬ ((i=9∧1<y % 128+128)∨(0<i∧y % 128+128=0)):=by
        rintro (⟨h,_⟩ | ⟨_,h⟩)
        · exact hi9 h
        · omega
      rw [if_neg c,if_neg (by omega)]
      have m:(y % 128+128) % 128=y % 128:=by omega
      rw [m]
      have hd:y / 128*2 ^ (7*(i+1))≤y*2 ^ (7*i):=by
        rw [pow7,← Nat.mul_assoc,Nat.mul_right_comm]
        exact Nat.mul_le_mul_right _ (Nat.div_mul_le_self y 128)
      match k,hk with
      | 0,hk=>omega
      | k+1,hk =>
        rw [show (vput (y / 128)).append more=vput (y / 128)++more from rfl,vgo_put more k (y / 128) (i+1) _ (by omega) (by omega) (by omega) (fun _=>by omega)]
        have:y % 128*2 ^ (7*i)+y / 128*2 ^ (7*(i+1))=y*2 ^ (7*i):=by
          rw [pow7]
          have:y / 128*(2 ^ (7*i)*128)=(128*(y / 128))*2 ^ (7*i):=by
            rw [Nat.mul_comm (2 ^ (7*i)) 128,← Nat.mul_assoc,Nat.mul_comm (y / 128) 128]
          rw [this,← Nat.add_mul,Nat.mod_add_div]
        rw [Nat.add_assoc,this,List.length_cons]
        congr 2; omega
theorem vgo_ok:∀ (l:List UInt8) (i acc n j:Nat),i≤9→vgo l i acc=.ok (n,j)→∃ y,i<j∧j≤i+l.length∧l.take (j-i)=vput y∧n=acc+y*2 ^ (7*i)∧y*2 ^ (7*i)<2 ^ 64∧(0<i→0<y)
  | [],i,acc,n,j,_,h=>by cases h
  | x :: l,i,acc,n,j,hi,h=>by
    unfold vgo at h
    split at h
    · cases h
    · next c =>
      have c1:i=9→x.toNat≤1:=fun e=>Nat.le_of_not_lt fun g=>c (.inl ⟨e,g⟩)
      have c2:0<i→0<x.toNat:=fun e=>Nat.pos_of_ne_zero fun g=>c (.inr ⟨e,g⟩)
      have hx:x.toNat<256:=x.toNat_lt
      split at h
      · next hlt =>
        injection h with h
        injection h with h1 h2
        subst h1 h2
        refine ⟨x.toNat,by omega,by rw [List.length_cons]; omega,?_,by rw [Nat.mod_eq_of_lt hlt],?_,c2⟩
        · have:i+1-i=1:=by omega
          rw [this,vput_lo (by omega),UInt8.ofNat_toNat]; rfl
        · by_cases h9:i=9
          · subst h9
            have:=c1 rfl
            have e:(2:Nat) ^ (7*9)=2 ^ 63:=by decide
            rw [e]; omega
          · have:(2:Nat) ^ (7*i)≤2 ^ (7*8):=Nat.pow_le_pow_right (by decide) (by omega)
            calc x.toNat*2 ^ (7*i)≤127*2 ^ (7*8):=Nat.mul_le_mul (by omega) this
              _<2 ^ 64:=by decide
      · next hge =>
        have h9:i≠9:=fun e=>by have:=c1 e; omega
        obtain ⟨y,k1,k2,k3,k4,k5,k6⟩:=vgo_ok l (i+1) _ n j (by omega) h
        have hy:=k6 (by omega)
        have hb:(x.toNat % 128+128*y)*2 ^ (7*i)=x.toNat % 128*2 ^ (7*i)+y*2 ^ (7*(i+1)):=by
          rw [Nat.add_mul,pow7]
          congr 1
          rw [Nat.mul_comm 128 y,Nat.mul_assoc,Nat.mul_comm 128]
        refine ⟨x.toNat % 128+128*y,by omega,by rw [List.length_cons]; omega,?_,by rw [k4,hb,Nat.add_assoc],?_,fun _=>by omega⟩
        · have e:j-i=(j-(i+1))+1:=by omega
          rw [e,List.take_succ_cons,k3,vput_hi (x:=x.toNat % 128+128*y) (by omega)]
          have e1:(x.toNat % 128+128*y) % 128+128=x.toNat:=by omega
          have e2:(x.toNat % 128+128*y) / 128=y:=by omega
          rw [e1,e2,UInt8.ofNat_toNat]
        · -- the top bits
          rw [hb]
          have hy64:y*2 ^ (7*(i+1))<2 ^ 64:=k5
          have hdiv:(2:Nat) ^ (7*(i+1)) ∣ 2 ^ 64:=Nat.pow_dvd_pow 2 (by omega)
          obtain ⟨q,hq⟩:=hdiv
          have hpos:0<(2:Nat) ^ (7*(i+1)):=Nat.two_pow_pos _
          have hyq:y<q:=by
            rw [hq,Nat.mul_comm y] at hy64
            exact Nat.lt_of_mul_lt_mul_left hy64
          have h1:(y+1)*2 ^ (7*(i+1))≤2 ^ 64:=by
            rw [hq,Nat.mul_comm]
            exact Nat.mul_le_mul_left _ hyq
          have h2:x.toNat % 128*2 ^ (7*i)<2 ^ (7*(i+1)):=by
            rw [pow7,Nat.mul_comm (2 ^ (7*i))]
            exact Nat.mul_lt_mul_of_pos_right (by omega) (Nat.two_pow_pos _)
          rw [Nat.add_mul,Nat.one_mul] at h1
          omega
end Go.FS
namespace Go.FS
end Go.FS
