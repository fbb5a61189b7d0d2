
namespace Go.FS
def vput (x:Nat):List UInt8:=if x≤127 then [UInt8.ofNat x] else UInt8.ofNat (x % 128+128)::vput (x / 128)
termination_by x
decreasing_by omega
theorem vput_lo {x:Nat} (h:x≤127):vput x=[UInt8.ofNat x]:=by rw [vput,if_pos h]
theorem vput_hi {x:Nat} (h:¬ x≤127):vput x=UInt8.ofNat (x % 128+128)::vput (x / 128):=by rw [vput,if_neg h]
theorem vput_len:∀ (k x:Nat),x<2^(7*(k+1))→(vput x).length≤k+1
 | k,x,h=>by
  by_cases hx:x≤127
  · rw [vput_lo hx]; simp
  · rw [vput_hi hx,List.length_cons]
    cases k with
    | zero=>simp at h; omega
    | succ k =>
     have e:(2:Nat)^(7*(k+1+1))=2^(7*(k+1))*128:=by rw [show 7*(k+1+1)=7*(k+1)+7 from by omega,Nat.pow_add]
     have:=vput_len k (x / 128) (by rw [e] at h; omega)
     omega
theorem vput_len10 {x:Nat} (h:x<2^64):(vput x).length≤10:=vput_len 9 x (Nat.lt_of_lt_of_le h (by decide))
theorem ofNat_toNat {x:Nat} (h:x<256):(UInt8.ofNat x).toNat=x:=by
 rw [UInt8.toNat_ofNat']; exact Nat.mod_eq_of_lt h
end Go.FS
namespace Go.FS
end Go.FS
