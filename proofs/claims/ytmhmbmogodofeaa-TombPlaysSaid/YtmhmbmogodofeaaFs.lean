import Derived.Test.YtmhmbmogodofeaaFr
namespace Go.FS
variable {H:HeapI} {P:Program}
theorem bop_lss (t:TypeId) (k:IntKind) (a b:Int):bopD P .lss t (.int k a) (.int k b)=some (.bool (decide (a<b))):=by cases k <;> rfl
theorem bop_leq (t:TypeId) (k:IntKind) (a b:Int):bopD P .leq t (.int k a) (.int k b)=some (.bool (decide (a≤b))):=by cases k <;> rfl
theorem bop_gtr (t:TypeId) (k:IntKind) (a b:Int):bopD P .gtr t (.int k a) (.int k b)=some (.bool (decide (a>b))):=by cases k <;> rfl
theorem bop_geq (t:TypeId) (k:IntKind) (a b:Int):bopD P .geq t (.int k a) (.int k b)=some (.bool (decide (a≥b))):=by cases k <;> rfl
theorem int_beq (a b:Int):(a == b)=decide (a=b):=by by_cases h:a=b <;> simp [h]
theorem bop_eql (t:TypeId) (k:IntKind) (a b:Int):bopD P .eql t (.int k a) (.int k b)=some (.bool (decide (a=b))):=by rw [← int_beq]; cases k <;> rfl
theorem bop_add (t:TypeId) (k:IntKind) (a b:Int):bopD P .add t (.int k a) (.int k b)=some (.int k (k.wrap (a+b))):=by cases k <;> rfl
theorem bop_mul (t:TypeId) (k:IntKind) (a b:Int):bopD P .mul t (.int k a) (.int k b)=some (.int k (k.wrap (a*b))):=by cases k <;> rfl
theorem runP_seq {α β:Type} (m:Sem α) (f:α→Sem β):runP P (m >>= f)=(runP P m).bind fun a=>runP P (f a):=by
 show runP P (Sem.bind m f)=_
 induction m <;> simp_all [Sem.bind,runP]
theorem runP_pure {α:Type} (a:α):runP P (pure a:Sem α)=some a:=rfl
theorem runP_und {t:TypeId} {d:TypeDesc} (h:P.underlying t=some d):runP P (underlying t)=some d:=by
 simp only [underlying,runP_seq]
 show (some P).bind _=_
 simp [h,runP_pure]
def eqF (g:TypeId→Value→Value→Option Bool) (P:Program) (xs ys:List Value):List Field→Option Bool
 | []=>some true
 | f :: l => bif f.name != "_" then (partD P f.type xs f.offset).bind fun a => (partD P f.type ys f.offset).bind fun b => (g f.type a b).bind fun r => cond r (eqF g P xs ys l) (some false) else eqF g P xs ys l
def eqS (P:Program):Nat→TypeId→Value→Value→Option Bool
 | 0,_,_,_=>none
 | d+1,t,x,y=>match P.underlying t,x,y with
  | some .bool,.bool a,.bool b=>some (a == b)
  | some (.int _),.int k a,.int k' b=>if k=k' then some (a == b) else none
  | some .string,.string a,.string b=>some (a == b)
  | some (.struct fs),.agg xs,.agg ys=>bif P.stoodInHeld t then none else eqF (eqS P d) P xs.toList ys.toList fs.toList
  | _,_,_=>none
theorem runP_size {t:TypeId} {n:Nat} (h:sizeD P t=some n):runP P (sizeOf t)=some n:=by
 unfold sizeD at h
 obtain ⟨i,hi,rfl⟩:=msome h
 simp only [sizeOf,typeInfo,runP_seq]
 show (((some P).bind _).bind _)=_
 simp [hi,runP_pure]
theorem runP_part {t:TypeId} {cs:Array Value} {o:Nat} {v:Value} (h:partD P t cs.toList o=some v):runP P (part t cs o)=some v:=by
 unfold partD at h
 obtain ⟨g,hg,h⟩:=bsome h
 unfold aggD at hg
 unfold part
 cases hu:P.underlying t with
 | none=>rw [hu] at hg; cases hg
 | some d =>
  have hagg:runP P (isAgg t)=some g:=by
   rw [hu] at hg
   unfold isAgg
   rw [runP_seq,runP_und hu]
   cases d <;> (simp only [Option.some.injEq] at hg; subst hg; rfl)
  rw [runP_seq,hagg]
  cases g with
  | true =>
   simp only [cond_true] at h
   obtain ⟨n,hn,h⟩:=bsome h
   obtain ⟨l,hl,rfl⟩:=msome h
   simp only [Option.bind_some,if_true]
   rw [runP_seq,runP_size hn]
   obtain ⟨hl1,hl2⟩:=takeD_eq hl
   simp only [Option.bind_some,runP_pure]
   congr 2
   apply Array.ext'
   simp [hl1,Array.toList_extract,List.extract_eq_take_drop]
  | false =>
   simp only [cond_false] at h
   simp only [Option.bind_some,Bool.false_eq_true,if_false]
   have:cs[o]?=some v:=by simpa using h
   rw [this]; rfl
theorem eqS_run:∀ (d:Nat) {t:TypeId} {x y:Value} {r:Bool},eqS P d t x y=some r→∀ e,d≤e→runP P (Op.equalIn e t x y)=some r
 | 0,_,_,_,_,h,_,_=>by cases h
 | d+1,t,x,y,r,h,e,he=>by
  obtain ⟨e,rfl⟩:∃ e',e=e'+1:=⟨e-1,by omega⟩
  unfold eqS at h
  unfold Op.equalIn
  split at h
  next a b hu=>rw [runP_seq,runP_und hu]; injection h with h; subst h; rfl
  next k a k' b hu => 
   split at h
   next hk=>rw [runP_seq,runP_und hu]; injection h with h; subst h; simp only [Option.bind_some,hk,if_true]; rfl
   next=>cases h
  next a b hu=>rw [runP_seq,runP_und hu]; injection h with h; subst h; rfl
  next fs xs ys hu =>
   have hs:P.stoodInHeld t=false:=by cases hq:P.stoodInHeld t <;> simp_all
   rw [hs] at h
   simp only [cond_false] at h
   rw [runP_seq,runP_und hu]
   simp only [Option.bind_some,runP_seq]
   show (some P).bind _=_
   simp only [Option.bind_some,hs,Bool.false_eq_true,if_false,runP_seq,← Array.forIn_toList]
   have key:∀ l:List Field,eqF (eqS P d) P xs.toList ys.toList l=some r→runP P (forIn l ((none:Option Bool),()) fun f _ =>
    if f.name ≠ "_" then do
     let a ← part f.type xs f.offset
     let b ← part f.type ys f.offset
     let r ← Op.equalIn e f.type a b
     if (!r)=true then pure (ForInStep.done (some false,())) else pure (ForInStep.yield (none,()))
    else pure (ForInStep.yield (none,())))=some (cond r none (some false),()):=by
    intro l
    induction l with
    | nil=>intro h; injection h with h; subst h; rfl
    | cons f l ih =>
     intro h
     unfold eqF at h
     rw [List.forIn_cons,runP_seq]
     cases hn : (f.name != "_") with
     | false =>
      rw [hn] at h
      have : ¬ f.name ≠ "_" := by simpa using hn
      rw [if_neg this]
      exact ih h
     | true =>
      rw [hn] at h
      have hn' : f.name ≠ "_" := by simpa using hn
      rw [if_pos hn']
      obtain ⟨a,ha,h⟩:=bsome h
      obtain ⟨b,hb,h⟩:=bsome h
      obtain ⟨q,hq,h⟩:=bsome h
      simp only [runP_seq,runP_part ha,runP_part hb,eqS_run d hq e (by omega),Option.bind_some]
      cases q with
      | true=>exact ih h
      | false=>injection h with h; subst h; rfl
   have:=key fs.toList h
   rw [this]
   cases r <;> rfl
  next=>cases h
theorem equal_eq (t:TypeId) (x y:Value):Op.equal t x y=Op.equalIn Op.maxDepth t x y:=by delta Op.equal; exact rfl
theorem runP_prog:runP P program=some P:=rfl
theorem guard_agg {op:BinOp} (ho:op=.eql∨op=.neq) {t:TypeId} {a b:Array Value} (hg:P.eqGuardType P.depth t=false):runP P (eqGuard op t (.tmp 0) (.tmp 0) (.agg a) (.agg b))=some ():=by
 generalize he:Op.eqGuardIn Op.maxDepth t (.agg a) (.agg b)=e
 have : eqGuard op t (.tmp 0) (.tmp 0) (.agg a) (.agg b) = (program >>= fun p => program >>= fun q => if (!p.eqGuardType q.depth t) = true then pure () else e >>= fun r => if r = true then unsupported (.noEntry "binop/eql: two nil values of an interface type with methods, in a part of a struct or an array") else pure ()) := by
  subst he
  rcases ho with rfl | rfl <;> exact rfl
 rw [this,runP_seq,runP_prog,Option.bind_some,runP_seq,runP_prog,Option.bind_some,hg,Bool.not_false,if_pos rfl]
 exact runP_pure ()
theorem bin_eql (t:TypeId) (a b:Array Value):binOp .eql t (.agg a) (.agg b)=(Op.equal t (.agg a) (.agg b) >>= fun r=>pure (.bool r)):=by
 unfold binOp; exact rfl
theorem bin_neq (t:TypeId) (a b:Array Value):binOp .neq t (.agg a) (.agg b)=(Op.equal t (.agg a) (.agg b) >>= fun r=>pure (.bool !r)):=by
 unfold binOp; exact rfl
theorem bop_agg {d:Nat} {t:TypeId} {a b:Array Value} {r:Bool} (hd:d≤Op.maxDepth) (hg:P.eqGuardType P.depth t=false) (hf:flat (.agg a)=true) (hf2:flat (.agg b)=true) (h:eqS P d t (.agg a) (.agg b)=some r) :
 bopD P .eql t (.agg a) (.agg b)=some (.bool r)∧bopD P .neq t (.agg a) (.agg b)=some (.bool !r):=by
 have hq:runP P (Op.equal t (.agg a) (.agg b))=some r:=by rw [equal_eq]; exact eqS_run d h _ hd
 constructor
 · rw [bopD,binD,hf,hf2,Bool.and_self,cond_true,pureD,runP_seq,guard_agg (.inl rfl) hg,Option.bind_some,bin_eql,runP_seq,hq]; rfl
 · rw [bopD,binD,hf,hf2,Bool.and_self,cond_true,pureD,runP_seq,guard_agg (.inr rfl) hg,Option.bind_some,bin_neq,runP_seq,hq]; rfl
theorem uop_not (a:Bool):uopD P .not (.bool a)=some (.bool !a):=rfl
theorem min_int (k:IntKind) (a b:Int):minD P (.int k a) [.int k b]=some (.int k (if b<a then b else a)):=by cases k <;> rfl
theorem wrap_i64 {n:Int} (h0:-2^63≤n) (h:n≤2^63-1):IntKind.i64.wrap n=n:=by
 have e:IntKind.i64.wrap n=if (n % 2^64:Int)≥2^63 then n % 2^64-2^64 else n % 2^64:=by
  have:IntKind.i64.wrap n=if (true&&decide ((n % 2^64:Int)≥2^63))=true then n % 2^64-2^64 else n % 2^64:=rfl
  rw [this,Bool.true_and]
  by_cases hq:(n % 2^64:Int)≥2^63 <;> simp only [hq,decide_true,decide_false,if_true,if_false,Bool.false_eq_true]
 rw [e]
 split <;> omega
theorem wrap_u64 {n:Int} (h0:0≤n) (h:n<2^64):IntKind.u64.wrap n=n:=by
 have e:IntKind.u64.wrap n=n % 2^64:=by
  simp only [IntKind.wrap,IntKind.signed,IntKind.bits,Bool.false_and,Bool.false_eq_true,if_false]
 rw [e]
 omega
end Go.FS
