import Derived.Test.YtmhmbmogodofeaaFp
namespace Go.FS
variable {H:HeapI} {X:Type}
def bodyC (fn:Func):Code:=match fn.body with
 | some c=>c
 | none=>.skip
def sel:List Nat→Code→Code
 | [],c=>c
 | i::p,c=>match c with
  | .seq a b=>sel p (match i with | 0=>a | _=>b)
  | .cond _ a b=>sel p (match i with | 0=>a | _=>b)
  | .block _ a=>sel p a
  | .loop a=>sel p a
  | .scope a=>sel p a
  | .rangeFunc _ _ a b=>sel p (match i with | 0=>a | _=>b)
  | c=>c
def cdp (fn:Func) (p:List Nat):Code:=sel p (bodyC fn)
noncomputable def kSeq (P:Program) (md:Bool) (C:OracleJ H) (n:Nat) (fn:FuncId) (rnd:Option Nat) (c:Code) (K:Ex→List Value→St H→Option (List X)):Ex→List Value→St H→Option (List X) :=
 fun e t s=>match e with
  | .normal=>exec P md C n fn rnd c t s K
  | e=>K e t s
def kBlock (id:Nat) (K:Ex→List Value→St H→Option (List X)):Ex→List Value→St H→Option (List X) :=
 fun e t s=>match e with
  | .exit i=>bif Nat.beq i id then K .normal t s else K (.exit i) t s
  | e=>K e t s
def kFun (P:Program) (fn:Func):Ex→List Value→St H→Option (List (Value×St H)) :=
 fun e t s=>match e with
  | .normal | .ret=>resK P s t fn.results.toList [] fun vs=>some [(tupD vs,s)]
  | .exit _=>none
def kIter {R:Type} (l:List Tmp) (nx:List Value→St H→Option R) (K:Ex→List Value→St H→Option R):Ex→List Value→St H→Option R :=
 fun e t s=>match e with
  | .normal=>nx (clr l t) s
  | e=>K e (clr l t) s
def kEnd (l:Nat):Ex→List Value→St H→Option (List (Value×St H)):=fun e _ s=>match e with
 | .normal=>(setLoopD s l 0 none).map fun s=>[(.bool true,s)]
 | .ret=>(setLoopD s l 2 (some .ret)).map fun s=>[(.bool false,s)]
 | .exit id=>(setLoopD s l 2 (some (.exit id))).map fun s=>[(.bool false,s)]
noncomputable def kAsg (P:Program) (md:Bool) (C:OracleJ H) (n:Nat) (fn:FuncId) (l:Nat) (c:Code):Ex→List Value→St H→Option (List (Value×St H)):=fun e t s=>match e with
 | .normal=>(beginD s l).bind fun s=>exec P md C n fn (some l) c t s (kEnd l)
 | _=>none
noncomputable def iterS {R:Type} {σ:Type} (g:(σ→St H→Option R)→(Nat→σ→St H→Option R)→(σ→St H→Option R)→σ→St H→Option R) (kx:Nat→σ→St H→Option R) (kr:σ→St H→Option R) (n:Nat):σ→St H→Option R :=
 Nat.rec (motive:=fun _=>σ→St H→Option R) (fun _ _=>none) (fun _ ih x s=>g ih kx kr x s) n
theorem iterS_succ {R:Type} {σ:Type} (g:(σ→St H→Option R)→(Nat→σ→St H→Option R)→(σ→St H→Option R)→σ→St H→Option R) (kx:Nat→σ→St H→Option R) (kr:σ→St H→Option R) (m:Nat) (x:σ) (s:St H) :
 iterS g kx kr (m+1) x s=g (iterS g kx kr m) kx kr x s:=rfl
theorem iter_eq {R:Type} {σ:Type} {f:List Value→St H→(Ex→List Value→St H→Option R)→Option R} {l:List Tmp} (mk:σ→List Value)
 (g:(σ→St H→Option R)→(Nat→σ→St H→Option R)→(σ→St H→Option R)→σ→St H→Option R)
 (h:∀ x s (nx:List Value→St H→Option R) (K:Ex→List Value→St H→Option R),f (mk x) s (kIter l nx K)=g (fun x s=>nx (mk x) s) (fun i x s=>K (.exit i) (mk x) s) (fun x s=>K .ret (mk x) s) x s) (K:Ex→List Value→St H→Option R) :
 ∀ m x s,iter f l m (mk x) s K=iterS g (fun i x s=>K (.exit i) (mk x) s) (fun x s=>K .ret (mk x) s) m x s:=by
 intro m
 induction m with
 | zero=>intro x s; rfl
 | succ m ih =>
  intro x s
  have h1:iter f l (m+1) (mk x) s K=f (mk x) s (kIter l (fun t s=>iter f l m t s K) K):=by
   show f (mk x) s _=f (mk x) s _
   congr 1
  rw [h1,h]
  have h2:(fun x s=>iter f l m (mk x) s K)=fun x s=>iterS g (fun i x s=>K (.exit i) (mk x) s) (fun x s=>K .ret (mk x) s) m x s:=by
   funext x s; exact ih x s
  rw [h2]
  rfl
def gd {R:Type} (v:Value) (a b c:Option R):Option R:=match v with
 | .bool x=>cond x a b
 | .tuple vs=>bif vs.toList.isEmpty then c else none
 | _=>none
def jn {α β:Sort _} (r:α) (f:α→β):β:=f r
structure Ops (H:HeapI) where
 boolO:Value→Option Bool
 alloc:St H→TypeId→Option (Value×St H)
 box:St H→Value→Option (Value×St H)
 build:TypeId→List (Nat×Value)→Option Value
 buildSlice:Bool→St H→TypeId→Nat→List (Nat×Value)→Option (Value×St H)
 load:St H→TypeId→Value→Option Value
 store:St H→TypeId→Value→Value→Option (St H)
 nilCheck:Value→Option Value
 bop:BinOp→TypeId→Value→Value→Option Value
 uop:UnOp→Value→Option Value
 conv:Bool→St H→TypeId→TypeId→Value→Option (Value×St H)
 makeSlice:Bool→St H→TypeId→Value→Value→Option (Value×St H)
 slc:St H→TypeId→Value→Option Value→Option Value→Option Value→Option Value
 fieldAddr:TypeId→Value→Nat→Option Value
 field:TypeId→Value→Nat→Option Value
 indexAddr:TypeId→Value→Value→Option Value
 index:TypeId→Value→Value→Option Value
 extract:Value→Nat→Option Value
 makeMap:St H→TypeId→Option Value→Option (Value×St H)
 lookup:St H→TypeId→Value→Value→Bool→Option Value
 mapUpdate:St H→TypeId→Value→Value→Value→Option (St H)
 mapEntry:St H→TypeId→Value→Value→Option (Value×St H)
 entryStore:St H→TypeId→Value→Value→Value→Option (St H)
 range:St H→TypeId→Value→Option (Value×St H)
 nexts:St H→Value→Option (List (Value×St H))
 next:St H→Value→Option (Value×St H)
 entry:St H→Value→Option Value
 len:St H→TypeId→Value→Option Value
 cap:TypeId→Value→Option Value
 append:Bool→St H→TypeId→TypeId→Value→Value→Option (Value×St H)
 clear:St H→TypeId→Value→Option (St H)
 delete:St H→TypeId→Value→Value→Option (St H)
 copy:St H→TypeId→Value→Value→Option (Value×St H)
 minO:Value→List Value→Option Value
 maxO:Value→List Value→Option Value
 tgt:Value→List Value→Option (Tgt×List Value)
section prims
variable (P:Program)
def bopD (op:BinOp) (t:TypeId) (x y:Value):Option Value:=(binD P op t x y).or (nilD P op t x y)
def uopD (op:UnOp) (x:Value):Option Value:=bif flat x then pureD P (Op.unary op x) else none
def slcD (s:St H) (t:TypeId) (x:Value) (l h m:Option Value):Option Value :=
 (sliceD P t x l h m).or (match m with | none=>sliceArrD P s t x l h | some _=>none)
def minD (x:Value) (l:List Value):Option Value:=bif flat x&&l.all flat then pureD P (l.foldlM Builtin.min2 x) else none
def maxD (x:Value) (l:List Value):Option Value:=bif flat x&&l.all flat then pureD P (l.foldlM Builtin.max2 x) else none
def makeMapO (s:St H) (t:TypeId) (r:Option Value):Option (Value×St H):=bif okHint r then makeMapD P s t else none
def appD (md:Bool) (s:St H) (t u:TypeId) (x y:Value):Option (Value×St H):=bif isInt P u then appendZ P s t x y else appendD P md s t u x y
def dOps:Ops H where
 boolO:=boolD
 alloc:=allocD P
 box:=boxD
 build:=buildD P
 buildSlice:=buildSliceD P
 load:=loadD P
 store:=storeD P
 nilCheck:=nilCheckD
 bop:=bopD P
 uop:=uopD P
 conv:=convertD P
 makeSlice:=makeSliceD P
 slc:=slcD P
 fieldAddr:=fieldAddrD P
 field:=fieldD P
 indexAddr:=indexAddrD P
 index:=indexD P
 extract:=extractD
 makeMap:=makeMapO P
 lookup:=lookupD P
 mapUpdate:=mapUpdateD P
 mapEntry:=mapEntryD P
 entryStore:=entryStoreD
 range:=rangeD P
 nexts:=nextsD
 next:=nextD
 entry:=entryD
 len:=lenOfD P
 cap:=capOfD P
 append:=appD P
 clear:=clearD P
 delete:=deleteD P
 copy:=copyD P
 minO:=minD P
 maxO:=maxD P
 tgt:=tgtD
def rngO (O:Ops H) (C:OracleJ H) (fn:FuncId) (f:Value) (t:List Value) (ps:List Tmp) (a b:Code) (s:St H) (k0:St H→Option (List X)) (kr:St H→Option (List X)) (kx:Nat→St H→Option (List X)):Option (List X) :=
 (O.tgt f [.func (.yield s.n) #[] #[]]).bind fun g=>bif !g.1.bodied P then none else
  (C g.1 g.2 (newD s (.loop 0 none fn t ps a b))).bind fun L=>manyK L fun _ s2 =>
  (endLoopD s2 s.n).bind fun q=>match q.1 with
   | none=>k0 q.2
   | some .ret=>kr q.2
   | some (.exit id)=>kx id q.2
   | some _=>none
end prims
theorem call_fn {P:Program} {A:Ann H} {n:Nat} {f:FuncId} {fn:Func} (hI:A.i f=none) (hc:A.cut f=none) (hf:P.funcs[f]?=some fn) (args:List Value) (s:St H) :
 callD P A (n+1) (.fn f) args s=bodyD P (A.row f) (callD P A n) A.N f fn args s:=by
 show (match A.i f with
  | some i=>(i args s).map fun p=>[p]
  | none=>match P.funcs[f]? with
   | none=>none
   | some fn=>match A.cut f with
    | none=>bodyD P (A.row f) (callD P A n) A.N f fn args s
    | some fl=>(bodyD P (A.row f) (callD P A n) A.N f fn args s).bind fun L=>cutJ fl s L)=_
 rw [hI,hf]
 show (match A.cut f with
         | none=>bodyD P (A.row f) (callD P A n) A.N f fn args s
         | some fl=>(bodyD P (A.row f) (callD P A n) A.N f fn args s).bind fun L=>cutJ fl s L)=_
 rw [hc]
theorem call_cut {P:Program} {A:Ann H} {n:Nat} {f:FuncId} {fn:Func} {fl:List (Option Nat)} (hI:A.i f=none) (hc:A.cut f=some fl) (hf:P.funcs[f]?=some fn) (args:List Value) (s:St H) :
 callD P A (n+1) (.fn f) args s=(bodyD P (A.row f) (callD P A n) A.N f fn args s).bind fun L=>cutJ fl s L:=by
 show (match A.i f with
  | some i=>(i args s).map fun p=>[p]
  | none=>match P.funcs[f]? with
   | none=>none
   | some fn=>match A.cut f with
    | none=>bodyD P (A.row f) (callD P A n) A.N f fn args s
    | some fl=>(bodyD P (A.row f) (callD P A n) A.N f fn args s).bind fun L=>cutJ fl s L)=_
 rw [hI,hf]
 show (match A.cut f with
         | none=>bodyD P (A.row f) (callD P A n) A.N f fn args s
         | some fl=>(bodyD P (A.row f) (callD P A n) A.N f fn args s).bind fun L=>cutJ fl s L)=_
 rw [hc]
theorem call_i {P:Program} {A:Ann H} {n:Nat} {f:FuncId} {i:List Value→St H→Option (Value×St H)} (hI:A.i f=some i) (args:List Value) (s:St H) :
 callD P A (n+1) (.fn f) args s=(i args s).map fun p=>[p]:=by
 show (match A.i f with
  | some i=>(i args s).map fun p=>[p]
  | none=>match P.funcs[f]? with
   | none=>none
   | some fn=>match A.cut f with
    | none=>bodyD P (A.row f) (callD P A n) A.N f fn args s
    | some fl=>(bodyD P (A.row f) (callD P A n) A.N f fn args s).bind fun L=>cutJ fl s L)=_
 rw [hI]
theorem call_yld {P:Program} {A:Ann H} {n l:Nat} (args:List Value) (s:St H):callD P A (n+1) (.yld l) args s=roundD P A.row (callD P A n) A.N l args s:=rfl
end Go.FS
