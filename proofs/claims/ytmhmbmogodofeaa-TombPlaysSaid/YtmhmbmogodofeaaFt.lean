import Derived.Test.YtmhmbmogodofeaaFs
namespace Go.FS
variable {H:HeapI} {P:Program}
noncomputable def forceN {R:Type} (n:Nat) (k:Nat→R):R:=Nat.rec (motive:=fun _=>R) (k 0) (fun j _=>k (Nat.succ j)) n
theorem forceN_eq {R:Type} (n:Nat) (k:Nat→R):forceN n k=k n:=by cases n <;> rfl
noncomputable def forceI {R:Type} (n:Int) (k:Int→R):R:=Int.rec (motive:=fun _=>R) (fun m=>forceN m fun m=>k (Int.ofNat m)) (fun m=>forceN m fun m=>k (Int.negSucc m)) n
theorem forceI_eq {R:Type} (n:Int) (k:Int→R):forceI n k=k n:=by
 cases n with
 | ofNat m=>exact forceN_eq m fun m=>k (Int.ofNat m)
 | negSucc m=>exact forceN_eq m fun m=>k (Int.negSucc m)
def ikN:IntKind→Nat
 | .i8=>0 | .i16=>1 | .i32=>2 | .i64=>3 | .u8=>4 | .u16=>5 | .u32=>6 | .u64=>7
def ikEq (a b:IntKind):Bool:=Nat.beq (ikN a) (ikN b)
theorem ikEq_eq (a b:IntKind):ikEq a b=decide (a=b):=by cases a <;> cases b <;> rfl
def lim:IntKind→Nat
 | .i8=>128 | .i16=>32768 | .i32=>2147483648 | .i64=>9223372036854775808 | .u8=>256 | .u16=>65536 | .u32=>4294967296 | .u64=>18446744073709551616
def modl:IntKind→Nat
 | .i8=>256 | .i16=>65536 | .i32=>4294967296 | .i64=>18446744073709551616 | .u8=>256 | .u16=>65536 | .u32=>4294967296 | .u64=>18446744073709551616
def sgn:IntKind→Bool
 | .i8 | .i16 | .i32 | .i64=>true
 | _=>false
def wrapQ (k:IntKind) (n:Int):Int:=match n with
 | .ofNat m=>bif Nat.blt m (lim k) then .ofNat m else bif sgn k then k.wrap (.ofNat m) else .ofNat (Nat.mod m (modl k))
 | .negSucc m=>bif sgn k&&Nat.blt m (lim k) then .negSucc m else k.wrap (.negSucc m)
theorem modl_int (k:IntKind):(2^k.bits:Int)=(modl k:Int):=by cases k <;> rfl
theorem lim_int {k:IntKind} (h:sgn k=true):(2^(k.bits-1):Int)=(lim k:Int):=by cases k <;> first | rfl | cases h
theorem wrap_sg {k:IntKind} (h:sgn k=true) (n:Int):k.wrap n=if n % (modl k:Int)≥(lim k:Int) then n % (modl k:Int)-(modl k:Int) else n % (modl k:Int):=by
 have hs:k.signed=true:=by cases k <;> first | rfl | cases h
 unfold IntKind.wrap
 simp only [hs,Bool.true_and,decide_eq_true_eq,modl_int,lim_int h]
theorem wrap_us {k:IntKind} (h:sgn k=false) (n:Int):k.wrap n=n % (modl k:Int):=by
 have hs:k.signed=false:=by cases k <;> first | rfl | cases h
 unfold IntKind.wrap
 simp only [hs,Bool.false_and,Bool.false_eq_true,if_false,modl_int]
theorem blt_dec (m n:Nat):Nat.blt m n=decide (m<n):=by
 cases e:Nat.blt m n with
 | false => 
  have:¬ m<n:=fun h=>by
   have h2:Nat.ble (m+1) n=true:=Nat.ble_eq_true_of_le h
   have h3:Nat.ble (m+1) n=false:=e
   rw [h2] at h3; cases h3
  rw [decide_eq_false this]
 | true =>
  have h2:Nat.ble (m+1) n=true:=e
  exact (decide_eq_true (Nat.le_of_ble_eq_true h2)).symm
theorem lim_sg {k:IntKind} (h:sgn k=true):modl k=2*lim k∧0<lim k:=by cases k <;> first | exact ⟨rfl,by decide⟩ | cases h
theorem lim_us {k:IntKind} (h:sgn k=false):modl k=lim k∧0<lim k:=by cases k <;> first | exact ⟨rfl,by decide⟩ | cases h
theorem wrapQ_eq (k:IntKind) (n:Int):wrapQ k n=k.wrap n:=by
 cases n with
 | ofNat m =>
  show (bif Nat.blt m (lim k) then (m:Int) else bif sgn k then k.wrap (m:Int) else ((m % (modl k):Nat):Int))=k.wrap (m:Int)
  rw [blt_dec]
  cases hs:sgn k with
  | true =>
   obtain ⟨h1,h2⟩:=lim_sg hs
   rw [wrap_sg hs,h1]
   by_cases h:m<lim k
   · rw [decide_eq_true h,cond_true,Int.emod_eq_of_lt (by omega) (by omega),if_neg (by omega)]
   · rw [decide_eq_false h]; rfl
  | false =>
   obtain ⟨h1,h2⟩:=lim_us hs
   rw [wrap_us hs,h1]
   by_cases h:m<lim k
   · rw [decide_eq_true h,cond_true,Int.emod_eq_of_lt (by omega) (by omega)]
   · rw [decide_eq_false h]; exact Int.natCast_emod m (lim k)
 | negSucc m =>
  show (bif sgn k&&Nat.blt m (lim k) then Int.negSucc m else k.wrap (.negSucc m))=_
  rw [blt_dec]
  cases h:(sgn k&&decide (m<lim k)) with
  | true =>
   simp only [Bool.and_eq_true,decide_eq_true_eq] at h
   obtain ⟨h1,h2⟩:=lim_sg h.1
   have h3:=h.2
   rw [cond_true,wrap_sg h.1,h1,Int.negSucc_eq]
   have e:(-((m:Int)+1)) % ((2*lim k:Nat):Int)=((2*lim k:Nat):Int)-(m+1):=by
    rw [← Int.add_emod_right,Int.emod_eq_of_lt (by omega) (by omega)]; omega
   rw [e,if_pos (by omega)]; omega
  | false=>rfl
def ltQ (a b:Int):Bool:=match a,b with
 | .ofNat m,.ofNat n=>Nat.blt m n
 | .ofNat _,.negSucc _=>false
 | .negSucc _,.ofNat _=>true
 | .negSucc m,.negSucc n=>Nat.blt n m
theorem ltQ_eq (a b:Int):ltQ a b=decide (a<b):=by
 cases a <;> cases b <;> simp only [ltQ,blt_dec] <;> simp [Int.negSucc_lt_zero,Int.negSucc_eq] <;> omega
def eqQ (a b:Int):Bool:=match a,b with
 | .ofNat m,.ofNat n=>Nat.beq m n
 | .negSucc m,.negSucc n=>Nat.beq m n
 | _,_=>false
theorem eqQ_eq (a b:Int):eqQ a b=decide (a=b):=by
 cases a <;> cases b <;> simp only [eqQ]
 · rename_i m n
   by_cases h:m=n
   · subst h; simp
   · rw [beq_no h,eq_comm]; exact decide_eq_false (fun e=>h (by injection e))
 · rename_i m n; exact (decide_eq_false (fun e=>by cases e)).symm
 · rename_i m n; exact (decide_eq_false (fun e=>by cases e)).symm
 · rename_i m n
   by_cases h:m=n
   · subst h; simp
   · rw [beq_no h,eq_comm]; exact decide_eq_false (fun e=>h (by injection e))
def minQ (a b:Nat):Nat:=bif Nat.ble a b then a else b
theorem minQ_eq (a b:Nat):minQ a b=min a b:=by
 unfold minQ
 by_cases h:a≤b
 · rw [Nat.ble_eq_true_of_le h,Nat.min_eq_left h]; rfl
 · have:Nat.ble a b=false:=by cases e:Nat.ble a b with | false=>rfl | true=>exact absurd (Nat.le_of_ble_eq_true e) h
   rw [this,Nat.min_eq_right (by omega)]; rfl
def intS (op:BinOp) (j k:IntKind) (a b:Int):Option Value:=match op with
 | .shl=>if b<0 then none else some (.int j (j.wrap (a*2^min b.toNat j.bits)))
 | .shr=>if b<0 then none else some (.int j (a.fdiv (2^min b.toNat j.bits)))
 | .add=>if j=k then some (.int j (j.wrap (a+b))) else none
 | .sub=>if j=k then some (.int j (j.wrap (a-b))) else none
 | .mul=>if j=k then some (.int j (j.wrap (a*b))) else none
 | .quo=>if j=k then if b=0 then none else some (.int j (j.wrap (a.tdiv b))) else none
 | .rem=>if j=k then if b=0 then none else some (.int j (a.tmod b)) else none
 | .and=>if j=k then some (.int j (j.wrap (BitVec.ofInt j.bits a &&& BitVec.ofInt j.bits b).toNat)) else none
 | .or=>if j=k then some (.int j (j.wrap (BitVec.ofInt j.bits a ||| BitVec.ofInt j.bits b).toNat)) else none
 | .xor=>if j=k then some (.int j (j.wrap (BitVec.ofInt j.bits a ^^^ BitVec.ofInt j.bits b).toNat)) else none
 | .andNot=>if j=k then some (.int j (j.wrap (BitVec.ofInt j.bits a &&& ~~~BitVec.ofInt j.bits b).toNat)) else none
 | .eql=>if j=k then some (.bool (decide (a=b))) else none
 | .neq=>if j=k then some (.bool !(decide (a=b))) else none
 | .lss=>if j=k then some (.bool (decide (a<b))) else none
 | .leq=>if j=k then some (.bool (decide (a≤b))) else none
 | .gtr=>if j=k then some (.bool (decide (a>b))) else none
 | .geq=>if j=k then some (.bool (decide (a≥b))) else none
theorem nilD_int (op:BinOp) (t:TypeId) (j k:IntKind) (a b:Int):nilD P op t (.int j a) (.int k b)=none:=by
 have h1:∀ u,nilEq u (.int j a) (.int k b)=false:=by
  intro u
  cases u with
  | none=>rfl
  | some u=>cases u <;> rfl
 have h2:∀ u,nilNil u (.int j a) (.int k b)=false:=by
  intro u
  cases u with
  | none=>rfl
  | some u=>cases u <;> rfl
 cases op <;> simp only [nilD,h1,h2,cond_false]
theorem bop_int (op:BinOp) (t:TypeId) (j k:IntKind) (a b:Int):bopD P op t (.int j a) (.int k b)=intS op j k a b:=by
 have hb:bopD P op t (.int j a) (.int k b)=binD P op t (.int j a) (.int k b):=by unfold bopD; rw [nilD_int]; cases binD P op t (.int j a) (.int k b) <;> rfl
 rw [hb]
 have e1:binD P op t (.int j a) (.int k b)=(runP P (do eqGuard op t (.tmp 0) (.tmp 0) (.int j a) (.int k b); binOp op t (.int j a) (.int k b))).bind fun v=>bif flat v then some v else none:=rfl
 rw [e1,runP_seq]
 have e2:runP P (eqGuard op t (.tmp 0) (.tmp 0) (.int j a) (.int k b))=some ():=by cases op <;> rfl
 rw [e2]
 simp only [Option.bind_some]
 cases op
 all_goals first
  | (show (runP P (if b<0 then _ else _)).bind _=_
     unfold intS
     split <;> rfl)
  | (show (runP P (if j≠k then _ else _)).bind _=_
     unfold intS
     by_cases h:j=k
     · subst h
       simp only [ne_eq,not_true_eq_false,if_false,if_true]
       first
       | rfl
       | (unfold Op.intDiv; by_cases hb:b=0 <;> simp only [hb,if_true,if_false] <;> rfl)
       | (show (some (Value.bool _))=some (Value.bool _)
          simp)
     · simp only [h,ne_eq,not_false_eq_true,if_true,if_false]; rfl)
noncomputable def intQ (op:BinOp) (j k:IntKind) (a b:Int):Option Value:=match op with
 | .shl=>bif ltQ b 0 then none else forceI (wrapQ j (Int.mul a (Int.ofNat (Nat.pow 2 (minQ b.toNat j.bits))))) fun n=>some (.int j n)
 | .shr=>bif ltQ b 0 then none else forceI (match a with | .ofNat m=>.ofNat (Nat.div m (Nat.pow 2 (minQ b.toNat j.bits))) | a=>a.fdiv (2^min b.toNat j.bits)) fun n=>some (.int j n)
 | .add=>bif ikEq j k then forceI (wrapQ j (Int.add a b)) fun n=>some (.int j n) else none
 | .sub=>bif ikEq j k then forceI (wrapQ j (Int.sub a b)) fun n=>some (.int j n) else none
 | .mul=>bif ikEq j k then forceI (wrapQ j (Int.mul a b)) fun n=>some (.int j n) else none
 | .quo=>bif ikEq j k then bif eqQ b 0 then none else forceI (wrapQ j (Int.tdiv a b)) fun n=>some (.int j n) else none
 | .rem=>bif ikEq j k then bif eqQ b 0 then none else forceI (Int.tmod a b) fun n=>some (.int j n) else none
 | .and=>bif ikEq j k then forceI (match a,b with | .ofNat m,.ofNat n=>wrapQ j (.ofNat (Nat.land (Nat.mod m (modl j)) (Nat.mod n (modl j)))) | a,b=>j.wrap (BitVec.ofInt j.bits a &&& BitVec.ofInt j.bits b).toNat) fun n=>some (.int j n) else none
 | .or=>bif ikEq j k then forceI (match a,b with | .ofNat m,.ofNat n=>wrapQ j (.ofNat (Nat.lor (Nat.mod m (modl j)) (Nat.mod n (modl j)))) | a,b=>j.wrap (BitVec.ofInt j.bits a ||| BitVec.ofInt j.bits b).toNat) fun n=>some (.int j n) else none
 | .xor=>bif ikEq j k then forceI (match a,b with | .ofNat m,.ofNat n=>wrapQ j (.ofNat (Nat.xor (Nat.mod m (modl j)) (Nat.mod n (modl j)))) | a,b=>j.wrap (BitVec.ofInt j.bits a ^^^ BitVec.ofInt j.bits b).toNat) fun n=>some (.int j n) else none
 | .andNot=>bif ikEq j k then forceI (j.wrap (BitVec.ofInt j.bits a &&& ~~~BitVec.ofInt j.bits b).toNat) fun n=>some (.int j n) else none
 | .eql=>bif ikEq j k then cond (eqQ a b) (some (.bool true)) (some (.bool false)) else none
 | .neq=>bif ikEq j k then cond (eqQ a b) (some (.bool false)) (some (.bool true)) else none
 | .lss=>bif ikEq j k then cond (ltQ a b) (some (.bool true)) (some (.bool false)) else none
 | .leq=>bif ikEq j k then cond (ltQ b a) (some (.bool false)) (some (.bool true)) else none
 | .gtr=>bif ikEq j k then cond (ltQ b a) (some (.bool true)) (some (.bool false)) else none
 | .geq=>bif ikEq j k then cond (ltQ a b) (some (.bool false)) (some (.bool true)) else none
theorem modl_eq (j:IntKind):modl j=2^j.bits:=by cases j <;> rfl
theorem ofInt_nat (j:IntKind) (m:Nat):(BitVec.ofInt j.bits (Int.ofNat m)).toNat=Nat.mod m (modl j):=by
 rw [modl_eq]; simp [BitVec.toNat_ofInt]; norm_cast
theorem intQ_eq (op:BinOp) (j k:IntKind) (a b:Int):intQ op j k a b=intS op j k a b:=by
 have hk:ikEq j k=decide (j=k):=ikEq_eq j k
 cases op <;> simp only [intQ,intS,hk,forceI_eq,wrapQ_eq,ltQ_eq,eqQ_eq,minQ_eq]
 case shl=>by_cases h:b<0 <;> simp [h]
 case shr =>
  by_cases h:b<0
  · simp [h]
  · simp only [h,decide_false,cond_false,if_false]
    cases a with
    | ofNat m => 
     congr 2
     show Int.ofNat _=Int.fdiv (Int.ofNat m) _
     have:(2:Int)^min b.toNat j.bits=Int.ofNat (2^min b.toNat j.bits):=by simp
     rw [this]
     show ((m / 2^min b.toNat j.bits:Nat):Int)=Int.fdiv (m:Int) ((2^min b.toNat j.bits:Nat):Int)
     exact Int.ofNat_fdiv m _
    | negSucc m=>rfl
 case and=>by_cases h:j=k <;> simp only [h,decide_true,decide_false,cond_true,cond_false,if_true,if_false]; cases a <;> cases b <;> first | rfl | (subst h; simp only [BitVec.toNat_and,ofInt_nat]; rfl)
 case or=>by_cases h:j=k <;> simp only [h,decide_true,decide_false,cond_true,cond_false,if_true,if_false]; cases a <;> cases b <;> first | rfl | (subst h; simp only [BitVec.toNat_or,ofInt_nat]; rfl)
 case xor=>by_cases h:j=k <;> simp only [h,decide_true,decide_false,cond_true,cond_false,if_true,if_false]; cases a <;> cases b <;> first | rfl | (subst h; simp only [BitVec.toNat_xor,ofInt_nat]; rfl)
 case eql=>by_cases h:j=k <;> simp only [h,decide_true,decide_false,cond_true,cond_false,if_true,if_false]; cases decide (a=b) <;> rfl
 case neq=>by_cases h:j=k <;> simp only [h,decide_true,decide_false,cond_true,cond_false,if_true,if_false]; cases decide (a=b) <;> rfl
 case lss=>by_cases h:j=k <;> simp only [h,decide_true,decide_false,cond_true,cond_false,if_true,if_false]; cases decide (a<b) <;> rfl
 case leq=>by_cases h:j=k <;> simp only [h,decide_true,decide_false,cond_true,cond_false,if_true,if_false]; by_cases h2:b<a <;> simp [h2] <;> omega
 case gtr=>by_cases h:j=k <;> simp only [h,decide_true,decide_false,cond_true,cond_false,if_true,if_false]; by_cases h2:b<a <;> simp [h2] <;> omega
 case geq=>by_cases h:j=k <;> simp only [h,decide_true,decide_false,cond_true,cond_false,if_true,if_false]; by_cases h2:a<b <;> simp [h2] <;> omega
 case quo=>by_cases h:j=k <;> by_cases h2:b=0 <;> simp [h,h2]
 case rem=>by_cases h:j=k <;> by_cases h2:b=0 <;> simp [h,h2]
 all_goals (by_cases h:j=k <;> simp only [h,decide_true,decide_false,cond_true,cond_false,if_true,if_false] <;> rfl)
end Go.FS
