import Derived.Test.YtmhmbmogodofeaaFa
namespace Go.FS
inductive Ex where
 | normal
 | exit (id:Nat)
 | ret
def loudOp (P:Program) (md:Bool) (o:Op):Bool :=
 match o with
 | .buildSlice _ _ _=>md
 | .move _ | .assign _ | .pick _ _ _ | .build _ _ | .load _ _ | .nilCheck _ | .binOp _ _ _ _ _ | .unOp _ _ _ | .makeFunc _ _ _ | .slice _ _ _ _ _ | .fieldAddr _ _ _ | .field _ _ _ | .indexAddr _ _ _ | .index _ _ _ | .extract _ _ | .lookup _ _ _ _ | .entry _=>false
 | .convert a d _=>match P.underlying d with
  | some (.int _) | some .string=>false
  | _=>match P.underlying a with
   | some .string=>md
   | _=>true
 | .call c=>match c.callee with
  | .builtin .len | .builtin .cap | .builtin .min | .builtin .max=>false
  | _=>true
 | _=>true
def readsOp (P:Program) (o:Op):Bool :=
 match o with
 | .load _ _ | .convert _ _ _ | .lookup _ _ _ _ | .entry _=>true
 | .slice e _ _ _ _=>match P.underlying e with
  | some (.array _ _)=>true
  | _=>false
 | .call c=>match c.callee with
  | .builtin .len=>true
  | _=>false
 | _=>false
def loudAt (P:Program) (md:Bool) (ops:Array Oper) (k:Nat):Bool :=
 match ops[k]? with
 | some o=>loudOp P md o.op
 | none=>false
def opTmps (all:Array Oper) (o:Oper):List Tmp:=(o.op.operands.toList.filterMap fun | .tmp t=>some t | _=>none) ++
 (match o.guard with | none=>[] | some (j,_)=>((all[j]?).bind (·.dst)).toList)
def makesOp (o:Oper):Bool :=
 match o.op,o.guard with
 | .alloc _,none=>true
 | _,_=>false
def makesAt (ops:Array Oper) (k:Nat):Bool :=
 match ops[k]? with
 | some o=>makesOp o
 | none=>false
def early (all:Array Oper) (b:Array Nat) (i j:Nat) (y:Oper):Bool :=
 makesOp y&&all.toList.zipIdx.all fun (z,k) =>
  match y.dst with
  | none=>true
  | some d=>(!(opTmps all z).contains d||(b.getD k 0).testBit i)&&(Nat.beq k j||z.dst != some d)
def pairOk (P : Program) (md : Bool) (all : Array Oper) (b : Array Nat) (i j : Nat) (x y : Oper) : Bool :=   -- i < j
 (b.getD j 0).testBit i ||
  ((!(loudOp P md x.op&&loudOp P md y.op)||early all b i j y) &&
   (match x.dst with | none=>true | some d=>!(opTmps all y).contains d&&y.dst != some d) &&
   (match y.dst with | none=>true | some d=>!(opTmps all x).contains d))
def regionOk (P:Program) (md:Bool) (ops:Array Oper):Bool :=
 (ops.toList.zipIdx.all fun (o,i) =>
  (o.after.toList.all fun e=>!Region.binds .any e||Nat.blt e.on i) &&
  (match o.guard with
   | none=>true
   | some (j,_)=>((Region.before ops).getD i 0).testBit j&&Nat.blt j i)) &&
 (ops.toList.zipIdx.all fun (y,j)=>(ops.toList.zipIdx.take j).all fun (x,i)=>pairOk P md ops (Region.before ops) i j x y)
def loLoud (P:Program) (md:Bool) (ops:Array Oper) (i:Nat):Nat:=(List.range ops.size).countP fun k=>loudAt P md ops k&&(!makesAt ops k&&((Region.before ops).getD i 0).testBit k)
def hiLoud (P:Program) (md:Bool) (ops:Array Oper) (i:Nat):Nat:=(List.range ops.size).countP fun k=>loudAt P md ops k&&!(((Region.before ops).getD k 0).testBit i)
section exec
variable (P:Program) (md:Bool) {H:HeapI} {R:Type}
def quietVal (o:Op) (t:List Value) (s:St H):Option Value :=
 match o with
 | .move x | .assign x=>some (evalO t x)
 | .pick c a b=>(boolD (evalO t c)).bind fun x=>cond x (some (evalO t a)) (some (evalO t b))
 | .build e parts=>buildD P e (parts.toList.map fun x=>(x.1,evalO t x.2))
 | .buildSlice e len parts=>(buildSliceD P false s e len (parts.toList.map fun x=>(x.1,evalO t x.2))).map (·.1)
 | .load e a=>loadD P s e (evalO t a)
 | .nilCheck x=>nilCheckD (evalO t x)
 | .binOp op e x y _=>(binD P op e (evalO t x) (evalO t y)).or (nilD P op e (evalO t x) (evalO t y))
 | .unOp op _ x=>(bif flat (evalO t x) then pureD P (Op.unary op (evalO t x)) else none)
 | .convert a b x=>(convertD P false s a b (evalO t x)).map (·.1)
 | .makeFunc (.func f) first cap=>some (.func (.func f) (first.map (evalO t)) (cap.map (evalO t)))
 | .slice e x l h m=>(sliceD P e (evalO t x) (l.map (evalO t)) (h.map (evalO t)) (m.map (evalO t))).or (match m with | none=>sliceArrD P s e (evalO t x) (l.map (evalO t)) (h.map (evalO t)) | some _=>none)
 | .fieldAddr e x f=>fieldAddrD P e (evalO t x) f
 | .field e x f=>fieldD P e (evalO t x) f
 | .indexAddr e x i=>indexAddrD P e (evalO t x) (evalO t i)
 | .index e x i=>indexD P e (evalO t x) (evalO t i)
 | .extract x i=>extractD (evalO t x) i
 | .lookup e x i ok=>lookupD P s e (evalO t x) (evalO t i) ok
 | .entry it=>entryD s (evalO t it)
 | .call c=>match c.callee,c.args.toList,c.argTypes.toList with
  | .builtin .len,[x],[e]=>lenOfD P s e (evalO t x)
  | .builtin .cap,[x],[e]=>capOfD P e (evalO t x)
  | .builtin .min,x::l,_=>(bif flat (evalO t x)&&(l.map (evalO t)).all flat then pureD P ((l.map (evalO t)).foldlM Builtin.min2 (evalO t x)) else none)
  | .builtin .max,x::l,_=>(bif flat (evalO t x)&&(l.map (evalO t)).all flat then pureD P ((l.map (evalO t)).foldlM Builtin.max2 (evalO t x)) else none)
  | _,_,_=>none
 | _=>none
def eqO (H:HeapI):Option Value→Value→Bool
 | some a,b=>H.eqv a b
 | none,_=>false
structure Said (H:HeapI) where
 op:Op
 t:List Value
 lo:Nat
 hi:Nat
 v:Value
def Said.holds (states:List (St H)) (e:Said H):Bool:=((states.take (e.hi+1)).drop e.lo).all fun s=>eqO H (quietVal P e.op e.t s) e.v
noncomputable def opsDK (C:Oracle H) (all:Array Oper):Nat→List Oper→List Value→St H→List (St H)→List (Said H)→(List Value→St H→Option R)→Option R
 | _,[],t,s,states,said,k=>bif said.all (Said.holds P states) then k t s else none
 | i,o::rest,t,s,states,said,k=>forceL t fun t =>
  let go (t:List Value):Option R:=opF P md C o t s fun v s' =>
   opsDK C all (i+1) rest (setD t o.dst v) s' (bif loudOp P md o.op then states++[s'] else states)
    (bif readsOp P o.op&&!loudOp P md o.op&&Nat.blt (loLoud P md all i) (hiLoud P md all i) then ⟨o.op,t,loLoud P md all i,hiLoud P md all i,v⟩::said else said) k
  let skip (t:List Value):Option R:=opsDK C all (i+1) rest (setD t o.dst undefV) s (bif loudOp P md o.op then states++[s] else states) said k
  match o.guard with
  | none=>go t
  | some (j,b)=>match (all[j]?).bind (·.dst) with
   | none=>none
   | some d=>match t.getD d dc with
    | .bool x=>cond x (cond b (go (t.set d (.bool true))) (skip (t.set d (.bool true)))) (cond b (skip (t.set d (.bool false))) (go (t.set d (.bool false))))
    | .tuple vs=>bif vs.toList.isEmpty then skip (t.set d undefV) else none
    | _=>none
structure Scan where
 written:List Tmp
 exposed:List Tmp
 assigned:List Tmp
def Scan.read (z:Scan) (x:Operand):Scan:=match x with
 | .tmp t=>bif z.written.contains t then z else { z with exposed:=t::z.exposed }
 | _=>z
def Scan.oper (z:Scan) (o:Oper):Scan :=
 let z:=o.op.operands.toList.foldl Scan.read z
 match o.dst with
 | none=>z
 | some d=>match o.op with
  | .assign _=>{ z with written:=d::z.written,assigned:=d::z.assigned }
  | _=>{ z with written:=d::z.written }
def Scan.code (z:Scan):Code→Scan
 | .region _ ops _=>ops.toList.foldl Scan.oper z
 | .seq a b=>(z.code a).code b
 | .cond c a b=>((z.read c).code a).code b
 | .block _ c=>z.code c
 | .loop c=>z.code c
 | .rangeFunc f ps a b => 
  let z:=z.read f
  (({ z with written:=ps.toList++z.written }).code a).code b
 | .scope c=>z.code c
 | _=>z
def scratch (c:Code):List Tmp :=
 let z:=Scan.code ⟨[],[],[]⟩ c
 (z.written.filter fun t=>!z.exposed.contains t&&!z.assigned.contains t).eraseDups
def clr (l:List Tmp) (t:List Value):List Value:=l.foldl (fun t i=>t.set i dc) t
def iter (f:List Value→St H→(Ex→List Value→St H→Option R)→Option R) (l:List Tmp):Nat→List Value→St H→(Ex→List Value→St H→Option R)→Option R
 | 0,_,_,_=>none
 | m+1,t,s,K=>f t s fun e t s=>match e with
  | .normal=>iter f l m (clr l t) s K
  | e=>K e (clr l t) s
def loopD (s:St H) (l:Nat):Option (Nat×Option Code×FuncId×List Value×List Tmp×Code×Code) :=
 match H.get s.h l with
 | some (.loop a b c d e f g)=>some (a,b,c,d,e,f,g)
 | _=>none
def isLoop (s:St H):Option Nat→Bool
 | none=>true
 | some l=>(loopD s l).isSome
def endLoopD (s:St H) (l:Nat):Option (Option Code×St H) :=
 (loopD s l).bind fun r=>bif Nat.beq r.1 1 then none else some (r.2.1,{ s with h:=H.put s.h l none })
def setLoopD (s:St H) (l:Nat) (st:Nat) (pending:Option Code):Option (St H) :=
 (loopD s l).map fun r=>{ s with h:=H.put s.h l (some (.loop st pending r.2.2.1 r.2.2.2.1 r.2.2.2.2.1 r.2.2.2.2.2.1 r.2.2.2.2.2.2)) }
def beginD (s:St H) (l:Nat):Option (St H) :=
 (loopD s l).bind fun r=>bif Nat.beq r.1 0 then setLoopD s l 1 r.2.1 else none
def bodied (f:FuncId):Bool :=
 match P.funcs[f]? with
 | some fn=>fn.body.isSome
 | none=>false
def Tgt.bodied:Tgt→Bool
 | .fn f=>FS.bodied P f
 | .yld _=>false
noncomputable def exec {X:Type} (C:OracleJ H) (n:Nat) (fn:FuncId) (rnd:Option Nat):Code→List Value→St H→(Ex→List Value→St H→Option (List X))→Option (List X)
 | .skip,t,s,K=>K .normal t s
 | .region _ ops draw,t,s,K =>
  bif draw then (bif regionOk P md ops then opsDK P md (oneO C) ops 0 ops.toList t s [s] [] (K .normal) else none) else opsK P md C ops ops.toList t s (K .normal)
 | .seq a b,t,s,K=>exec C n fn rnd a t s fun e t s=>match e with
  | .normal=>exec C n fn rnd b t s K
  | e=>K e t s
 | .cond c a b,t,s,K=>(boolD (evalO t c)).bind fun x=>cond x (exec C n fn rnd a t s K) (exec C n fn rnd b t s K)
 | .block id c,t,s,K=>exec C n fn rnd c t s fun e t s=>match e with
  | .exit i=>bif Nat.beq i id then K .normal t s else K (.exit i) t s
  | e=>K e t s
 | .loop c,t,s,K=>iter (fun t s k=>exec C n fn rnd c t s k) (scratch c) n (clr (scratch c) t) s K
 | .exit id,t,s,K=>K (.exit id) t s
 | .ret,t,s,K=>K .ret t s
 | .rangeFunc f ps a b,t,s,K =>
  bif isLoop s rnd then
   (tgtD (evalO t f) [.func (.yield s.n) #[] #[]]).bind fun g=>bif !g.1.bodied P then none else
   (C g.1 g.2 (newD s (.loop 0 none fn t ps.toList a b))).bind fun L=>manyK L fun _ s2 =>
   (endLoopD s2 s.n).bind fun q=>match q.1 with
    | none=>K .normal t q.2
    | some .ret=>K .ret t q.2
    | some (.exit id)=>K (.exit id) t q.2
    | some _=>none
  else none
 | _,_,_,_=>none
def resK (s:St H) (t:List Value):List ResultVar→List Value→(List Value→Option R)→Option R
 | [],acc,k=>k acc
 | .tmp i::l,acc,k=>resK s t l (acc++[t.getD i undefV]) k
 | .cell a e::l,acc,k=>(loadD P s e (t.getD a undefV)).bind fun v=>resK s t l (acc++[v]) k
def tupD:List Value→Value
 | [v]=>v
 | l=>.tuple l.toArray
noncomputable def bodyD (C:OracleJ H) (n:Nat) (f:FuncId) (fn:Func) (args:List Value) (s:St H):Option (List (Value×St H)) :=
 match fn.body with
 | none=>none
 | some c=>exec P md C n f none c (args++List.replicate (fn.ntmps-args.length) undefV) s fun e t s=>match e with
  | .normal | .ret=>resK P s t fn.results.toList [] fun vs=>some [(tupD vs,s)]
  | .exit _=>none
noncomputable def roundD (rw:FuncId→Bool) (C:OracleJ H) (n:Nat) (l:Nat) (args:List Value) (s:St H):Option (List (Value×St H)) :=
 (loopD s l).bind fun r=>bif Nat.beq args.length r.2.2.2.2.1.length then
  exec P (rw r.2.2.1) C n r.2.2.1 (some l) r.2.2.2.2.2.1 ((r.2.2.2.2.1.zip args).foldl (fun t p=>t.set p.1 p.2) r.2.2.2.1) s fun e t s=>match e with
   | .normal=>(beginD s l).bind fun s=>exec P (rw r.2.2.1) C n r.2.2.1 (some l) r.2.2.2.2.2.2 t s fun e _ s=>match e with
    | .normal=>(setLoopD s l 0 none).map fun s=>[(.bool true,s)]
    | .ret=>(setLoopD s l 2 (some .ret)).map fun s=>[(.bool false,s)]
    | .exit id=>(setLoopD s l 2 (some (.exit id))).map fun s=>[(.bool false,s)]
   | _=>none
 else none
abbrev Intr (H:HeapI):=FuncId→Option (List Value→St H→Option (Value×St H))
inductive Bel (n:Nat):Value→Prop
 | bool (b:Bool):Bel n (.bool b)
 | int (k:IntKind) (i:Int):Bel n (.int k i)
 | string (b:ByteArray):Bel n (.string b)
 | nilFunc:Bel n .nilFunc
 | nilIface:Bel n .nilIface
 | nilPtr:Bel n (.pointer none)
 | nilMap:Bel n (.map none)
 | ptr (id o:Nat) (h:id<n):Bel n (.pointer (some ⟨id,o,none⟩))
 | slice (id o len c:Nat) (h:id<n):Bel n (.slice (some ⟨id,o,none⟩) len c)
 | map (id:Nat) (h:id<n):Bel n (.map (some id))
 | func (f:FuncId) (a b:Array Value) (ha:∀ x∈a.toList,Bel n x) (hb:∀ x∈b.toList,Bel n x):Bel n (.func (.func f) a b)
 | yld (l:Nat) (h:l<n):Bel n (.func (.yield l) #[] #[])
 | agg (a:Array Value) (ha:∀ x∈a.toList,Bel n x):Bel n (.agg a)
 | tuple (a:Array Value) (ha:∀ x∈a.toList,Bel n x):Bel n (.tuple a)
 | fz (m:Nat) (a:Array Value) (hm:m<n+3) (ha:∀ x∈a.toList,Bel n x):Bel n (.iface m (.tuple a))
 | fp (o:Nat) (a:Array Value) (ha:∀ x∈a.toList,Bel n x):Bel n (.iface o (.tuple #[.tuple a]))
 | gp (g o:Nat):Bel n (.iface o (.tuple #[.tuple #[],.int .i64 g]))
 | nilSlice:Bel n (.slice none 0 0)
 | iface (t:TypeId) (v:Value) (h:isTup v=false) (hv:Bel n v):Bel n (.iface t v)
def BelO (n:Nat):Option DObj→Prop
 | none=>True
 | some (.row cs)=>∀ x∈cs,Bel n x
 | some (.tok _ _)=>True
 | some (.map es _)=>∀ e∈es,Bel n e.1∧Bel n e.2.1
 | _=>False
def stripN:Nat→Nat→Value→Value
 | 0,_,v=>v
 | k+1,n,v=>match v with
  | .iface m (.tuple a)=>match a.toList with
   | [.tuple cs]=>fpV (cs.toList.map (stripN k n)).toArray m
   | .tuple _::_=>v
   | l=>fzV (bif Nat.blt m (n+3) then m else 0) (l.map (stripN k n)).toArray
  | .agg a=>.agg (a.toList.map (stripN k n)).toArray
  | v=>v
def mrgH (H:HeapI):Nat→H.T→H.T→H.T
 | 0,_,b=>b
 | n+1,a,b=>H.put (mrgH H n a b) n (H.get a n)
def mrg (s s':St H):St H:={ h:=mrgH H s.n s'.h s.h,n:=s.n }
open Classical in
noncomputable def cutC (s s' st:St H) (own:Option Nat) (c:Value):Option (Value×St H) :=
 match own with
 | none=>if Bel s.n (stripN 8 s.n c) then some (stripN 8 s.n c,st) else none
 | some z=>match stripN 8 s.n c,c with
  | .iface _ (.tuple a),.iface m (.tuple a0) =>
   if fzOk z a=true∧fzOk z a0=true∧∀ x∈a.toList,Bel s.n x then
    match m with
    | 0=>none
    | 1=>some (fzV (st.n+3) a,newD st (.tok a.size z))
    | 2=>some (fzV (st.n+3) a,newD st (.tok a.size z))
    | id+3=>if tokD s' id=some (a.size,z) then (if id<s.n then some (fzV (id+3) a,st) else some (fzV (st.n+3) a,newD st (.tok a.size z))) else none
   else none
  | _,_=>none
noncomputable def cutL (s s':St H):List (Option Nat)→List Value→St H→Option (List Value×St H)
 | _,[],st=>some ([],st)
 | fl,c::l,st=>(cutC s s' st (fl.headD none) c).bind fun p=>(cutL s s' fl.tail l p.2).map fun q=>(p.1::q.1,q.2)
def frz1 (n:Nat) (s:St H) (c:Value):Value×St H :=
 match c with
 | .slice (some ⟨id,o,none⟩) len cc =>
  if n≤id∧0<cc / 2 then
   match (rowD s id).bind fun r=>takeD r o (len*(cc / 2)) with
   | some l=>if l.all oneC=true then (fzV 0 (chunkL (cc / 2) len l).toArray,{ s with h:=H.put s.h id none }) else (c,s)
   | none=>(c,s)
  else (c,s)
 | c=>(c,s)
def frzL (f:St H→Value→Value×St H):List Value→St H→List Value×St H
 | [],s=>([],s)
 | c::l,s=>((f s c).1::(frzL f l (f s c).2).1,(frzL f l (f s c).2).2)
def frz2 (n:Nat) (s:St H) (v:Value):Value×St H :=
 match v with
 | .agg a=>(.agg (frzL (frz1 n) a.toList s).1.toArray,(frzL (frz1 n) a.toList s).2)
 | v=>frz1 n s v
def frzT (n:Nat) (s:St H) (v:Value):Value×St H :=
 match v with
 | .tuple a=>(.tuple (frzL (frz2 n) a.toList s).1.toArray,(frzL (frz2 n) a.toList s).2)
 | v=>frz2 n s v
open Classical in
noncomputable def cutD0 (fl:List (Option Nat)) (s:St H) (v:Value) (s':St H):Option (Value×St H) :=
 if s.n≤s'.n∧(∀ i,i<s.n→H.get s'.h i=H.get s.h i∨BelO s.n (H.get s'.h i))∧(fl.filter Option.isSome).length≤1 then
  match v with
  | .tuple a=>(cutL s s' fl a.toList (mrg s s')).map fun q=>(.tuple q.1.toArray,q.2)
  | v=>cutC s s' (mrg s s') (fl.headD none) v
 else none
noncomputable def cutD (fl:List (Option Nat)) (s:St H) (v:Value) (s':St H):Option (Value×St H):=cutD0 fl s (frzT s.n s' v).1 (frzT s.n s' v).2
open Classical in
noncomputable def mergeL {X:Type}:List X→List X
 | []=>[]
 | p::r=>if ∀ q∈r,q=p then [p] else p::r
noncomputable def cutJ (fl:List (Option Nat)) (s:St H) (L:List (Value×St H)):Option (List (Value×St H)) :=
 (joinO (L.map fun p=>(cutD fl s p.1 p.2).map fun q=>[q])).map mergeL
structure Ann (H:HeapI) where
 i:Intr H
 N:Nat
 row:FuncId→Bool
 cut:FuncId→Option (List (Option Nat))
noncomputable def callD (A:Ann H):Nat→OracleJ H
 | 0=>fun _ _ _=>none
 | n+1=>fun g args s=>match g with
  | .fn f=>match A.i f with
   | some i=>(i args s).map fun p=>[p]
   | none=>match P.funcs[f]? with
    | none=>none
    | some fn=>match A.cut f with
     | none=>bodyD P (A.row f) (callD A n) A.N f fn args s
     | some fl=>(bodyD P (A.row f) (callD A n) A.N f fn args s).bind fun L=>cutJ fl s L
  | .yld l=>roundD P A.row (callD A n) A.N l args s
end exec
theorem beq_no {a b:Nat} (h:a≠b):Nat.beq a b=false:=by
 cases e:Nat.beq a b with
 | false=>rfl
 | true=>exact absurd (Nat.eq_of_beq_eq_true e) h
theorem beq_yes (a:Nat):Nat.beq a a=true:=Nat.beq_refl a
theorem Tr.get_leaf {α:Type} (n:Nat):(Tr.leaf:Tr α).get n=none:=by unfold Tr.get; rfl
theorem Tr.get_node {α:Type} (l:Tr α) (o:Option α) (r:Tr α) (n:Nat):(Tr.node l o r).get n=if n=0 then o else if n % 2=1 then l.get (n / 2) else r.get (n / 2-1):=by
 conv=>lhs; unfold Tr.get
 by_cases h:n=0
 · subst h; rfl
 · have:Nat.beq n 0=false:=beq_no h
   rw [this]; simp only [if_neg h]
   by_cases h2:n % 2=1
   · rw [h2]; rfl
   · have h3:n % 2=0:=by omega
     rw [h3]; rfl
theorem Tr.get_parts {α:Type} (t:Tr α) (n:Nat):t.get n=(Tr.node t.left t.mid t.right).get n:=by
 cases t with
 | leaf =>
  rw [Tr.get_leaf,Tr.get_node]
  simp only [Tr.left,Tr.mid,Tr.right,Tr.get_leaf]
  by_cases h:n=0
  · rw [if_pos h]
  · rw [if_neg h]; split <;> rfl
 | node l o r=>rfl
theorem Tr.get_putF {α:Type} (f:Nat):∀ (t:Tr α) (i:Nat) (o:Option α) (j:Nat),i<f→(Tr.putF f t i o).get j=if j=i then o else t.get j:=by
 induction f with
 | zero=>intro t i o j h; omega
 | succ f ih =>
  intro t i o j h
  rw [Tr.get_parts t j]
  unfold Tr.putF
  by_cases h0:i=0
  · subst h0
    rw [beq_yes]
    simp only [Tr.get_node]
    by_cases j0:j=0
    · rw [if_pos j0,if_pos j0]
    · rw [if_neg j0,if_neg j0,if_neg j0]
  · have hb:Nat.beq i 0=false:=beq_no h0
    rw [hb]
    by_cases h2:i % 2=1
    · have hb2:Nat.beq (i % 2) 1=true:=by rw [h2]; rfl
      rw [hb2]
      simp only [Tr.get_node]
      rw [ih _ _ _ _ (by omega)]
      by_cases j0:j=0
      · subst j0; simp; intro hh; omega
      · rw [if_neg j0,if_neg j0]
        by_cases j2:j % 2=1
        · rw [if_pos j2,if_pos j2]
          by_cases e:j=i
          · subst e; simp
          · rw [if_neg e,if_neg (by omega)]
        · rw [if_neg j2,if_neg j2,if_neg (by omega)]
    · have hb2 : Nat.beq (i % 2) 1 = false := by have : i % 2 = 0 := by omega
                                                 rw [this]; rfl
      rw [hb2]
      simp only [Tr.get_node]
      rw [ih _ _ _ _ (by omega)]
      by_cases j0:j=0
      · subst j0; simp; intro hh; omega
      · rw [if_neg j0,if_neg j0]
        by_cases j2:j % 2=1
        · rw [if_pos j2,if_pos j2,if_neg (by omega)]
        · rw [if_neg j2,if_neg j2]
          by_cases e:j=i
          · subst e; simp
          · rw [if_neg e,if_neg (by omega)]
theorem veq1_eq {a b:Value} (h:veq1 a b=true):a=b:=by
 unfold veq1 at h
 split at h
 all_goals first
  | (cases h; done)
  | (try simp only [Bool.and_eq_true,decide_eq_true_eq,beq_iff_eq] at h
     first
     | (obtain ⟨h1,h2⟩:=h; obtain ⟨h0,h1⟩:=h1; rw [h0,Nat.eq_of_beq_eq_true h1,Nat.eq_of_beq_eq_true h2])
     | (obtain ⟨h1,h2⟩:=h; rw [h1,h2])
     | (rw [h])
     | (have h:=Nat.eq_of_beq_eq_true h; subst h; rfl)
     | (have:=Array.toList_inj.1 h; exact congrArg Value.string (by rename_i a b; cases a; cases b; simp_all)))
  | rfl
theorem allEq_eq {f:Value→Value→Bool} (hf:∀ a b,f a b=true→a=b):∀ {l m:List Value},allEq f l m=true→l=m
 | [],[],_=>rfl
 | [],_::_,h=>by cases h
 | _::_,[],h=>by cases h
 | a::l,b::m,h=>by
  simp only [allEq,Bool.and_eq_true] at h
  rw [hf a b h.1,allEq_eq hf h.2]
theorem veqN_eq:∀ (n:Nat) (a b:Value),veqN n a b=true→a=b
 | 0,_,_,h=>by cases h
 | n+1,a,b,h=>by
  have ih:=veqN_eq n
  unfold veqN at h
  split at h
  · rw [Array.toList_inj.1 (allEq_eq ih h)]
  · rw [Array.toList_inj.1 (allEq_eq ih h)]
  · simp only [Bool.and_eq_true] at h
    rw [Nat.eq_of_beq_eq_true h.1,ih _ _ h.2]
  · simp only [Bool.and_eq_true] at h
    rw [Nat.eq_of_beq_eq_true h.1.1,Array.toList_inj.1 (allEq_eq ih h.1.2),Array.toList_inj.1 (allEq_eq ih h.2)]
  · exact veq1_eq h
def TrG (G:Nat→Option (Array Value)):HeapI where
 T:=Tr DObj
 get:=Tr.get
 put:=Tr.put
 get_put:=fun h i o j=>Tr.get_putF (i+1) h i o j (Nat.lt_succ_self i)
 eqv:=veqN 12
 eqv_ok:=veqN_eq 12
 glob:=G
def emptyS {G:Nat→Option (Array Value)}:St (TrG G):={ h:=Tr.leaf,n:=0 }
open Classical in
noncomputable def FG (G:Nat→Option (Array Value)):HeapI where
 T:=Nat→Option DObj
 get:=fun h i=>h i
 put:=fun h i o j=>if j=i then o else h j
 get_put:=fun _ _ _ _=>rfl
 eqv:=fun a b=>decide (a=b)
 eqv_ok:=fun _ _ h=>of_decide_eq_true h
 glob:=G
noncomputable def emptyF {G:Nat→Option (Array Value)}:St (FG G):={ h:=fun _=>none,n:=0 }
theorem mrgH_get {H:HeapI}:∀ (n:Nat) (a b:H.T) (i:Nat),H.get (mrgH H n a b) i=if i<n then H.get a i else H.get b i
 | 0,a,b,i=>by rw [if_neg (Nat.not_lt_zero i)]; rfl
 | n+1,a,b,i=>by
  show H.get (H.put (mrgH H n a b) n (H.get a n)) i=_
  rw [H.get_put,mrgH_get n a b i]
  by_cases e:i=n
  · subst e; rw [if_pos rfl,if_pos (Nat.lt_succ_self _)]
  · rw [if_neg e]
    by_cases h:i<n
    · rw [if_pos h,if_pos (by omega)]
    · rw [if_neg h,if_neg (by omega)]
end Go.FS
