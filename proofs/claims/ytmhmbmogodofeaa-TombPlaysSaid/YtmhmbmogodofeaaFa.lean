import GoSem.Step
namespace Go.FS
inductive Tr (α:Type) where
 | leaf
 | node (l:Tr α) (o:Option α) (r:Tr α)
def Tr.get {α:Type}:Tr α→Nat→Option α
 | .leaf,_=>none
 | .node l o r,n =>
  match Nat.beq n 0 with
  | true=>o
  | false=>match Nat.beq (n % 2) 1 with
   | true=>l.get (n / 2)
   | false=>r.get (n / 2-1)
def Tr.left {α:Type}:Tr α→Tr α
 | .leaf=>.leaf
 | .node l _ _=>l
def Tr.right {α:Type}:Tr α→Tr α
 | .leaf=>.leaf
 | .node _ _ r=>r
def Tr.mid {α:Type}:Tr α→Option α
 | .leaf=>none
 | .node _ o _=>o
def Tr.putF {α:Type}:Nat→Tr α→Nat→Option α→Tr α
 | 0,t,_,_=>t
 | f+1,t,n,v =>
  match Nat.beq n 0 with
  | true=>.node t.left v t.right
  | false=>match Nat.beq (n % 2) 1 with
   | true=>.node (Tr.putF f t.left (n / 2) v) t.mid t.right
   | false=>.node t.left t.mid (Tr.putF f t.right (n / 2-1) v)
def Tr.put {α:Type} (t:Tr α) (n:Nat) (v:Option α):Tr α:=Tr.putF (n+1) t n v
inductive DObj where
 | row (cells:List Value)
 | tok (len z:Nat)
 | map (entries:List (Value×Value×Nat)) (clock:Nat)
 | iter (m:Option Nat) (since:Nat) (seen:List Nat) (last:Nat)
 | loop (state:Nat) (pending:Option Code) (fn:FuncId) (tmps:List Value) (params:List Tmp) (assign body:Code)
structure HeapI where
 T:Type
 get:T→Nat→Option DObj
 put:T→Nat→Option DObj→T
 get_put:∀ h i o j,get (put h i o) j=if j=i then o else get h j
 eqv:Value→Value→Bool
 eqv_ok:∀ a b,eqv a b=true→a=b
  /-- What stands in package-level variables that nothing writes. -/
 glob:Nat→Option (Array Value)
structure St (H:HeapI) where
 h:H.T
 n:Nat
def dc:Value:=.tuple #[.nilFunc]
def undefV:Value:=.tuple #[]
def isTup:Value→Bool
 | .tuple _=>true
 | _=>false
def fzV (m:Nat) (arr:Array Value):Value:=.iface m (.tuple arr)
def fz (m:Nat) (els:List (List Value)):Value:=fzV m (els.map fun e=>Value.agg e.toArray).toArray
def fpV (cs:Array Value) (o:Nat):Value:=.iface o (.tuple #[.tuple cs])
def fp (cs:List Value) (o:Nat):Value:=fpV cs.toArray o
def gpV (g o:Nat):Value:=.iface o (.tuple #[.tuple #[],.int .i64 g])
def runP (P:Program) {α:Type}:Sem α→Option α
 | .pure a=>some a
 | .program k=>runP P (k P)
 | .mark _ k=>runP P k
 | _=>none
def flat1:Value→Bool
 | .bool _ | .int _ _ | .string _ | .nilFunc | .nilIface | .pointer none | .map none | .slice none 0 0=>true
 | _=>false
def flat:Value→Bool
 | .agg cs=>cs.toList.all flat1
 | .tuple cs=>cs.toList.isEmpty
 | v=>flat1 v
def oneC:Value→Bool
 | .agg _ | .tuple _=>false
 | _=>true
def nz1:Value→Value
 | .slice none 0 0=>fzV 2 #[]
 | v=>v
def nz:Value→Value
 | .agg cs=>.agg (cs.toList.map nz1).toArray
 | v=>nz1 v
def veq1:Value→Value→Bool
 | .bool a,.bool b=>a == b
 | .int j a,.int k b=>decide (j=k)&&decide (a=b)
 | .string a,.string b=>decide (a.data.toList=b.data.toList)
 | .pointer none,.pointer none=>true
 | .pointer (some a),.pointer (some b)=>decide (a=b)
 | .slice none 0 0,.slice none 0 0=>true
 | .slice (some a) l c,.slice (some b) m d=>decide (a=b)&&Nat.beq l m&&Nat.beq c d
 | .map none,.map none=>true
 | .map (some a),.map (some b)=>Nat.beq a b
 | .nilFunc,.nilFunc=>true
 | .nilIface,.nilIface=>true
 | _,_=>false
def allEq (f:Value→Value→Bool):List Value→List Value→Bool
 | [],[]=>true
 | a::l,b::m=>f a b&&allEq f l m
 | _,_=>false
def veqN:Nat→Value→Value→Bool
 | 0,_,_=>false
 | n+1,a,b=>match a,b with
  | .agg a,.agg b=>allEq (veqN n) a.toList b.toList
  | .tuple a,.tuple b=>allEq (veqN n) a.toList b.toList
  | .iface t a,.iface u b=>Nat.beq t u&&veqN n a b
  | .func (.func f) a b,.func (.func g) c d=>Nat.beq f g&&allEq (veqN n) a.toList c.toList&&allEq (veqN n) b.toList d.toList
  | a,b=>veq1 a b
section prims
variable (P:Program) {H:HeapI}
def boolD:Value→Option Bool
 | .bool b=>some b
 | _=>none
def ptrD:Value→Option (Nat×Nat)
 | .pointer (some ⟨b,o,none⟩)=>some (b,o)
 | _=>none
def rowD (s:St H) (id:Nat):Option (List Value) :=
 match H.get s.h id with
 | some (.row cs)=>some cs
 | _=>none
def tokD (s:St H) (id:Nat):Option (Nat×Nat) :=
 match H.get s.h id with
 | some (.tok n z)=>some (n,z)
 | _=>none
def mapD (s:St H) (id:Nat):Option (List (Value×Value×Nat)×Nat) :=
 match H.get s.h id with
 | some (.map es c)=>some (es,c)
 | _=>none
def putD (s:St H) (id:Nat) (o:DObj):St H:={ s with h:=H.put s.h id (some o) }
def newD (s:St H) (o:DObj):St H:={ h:=H.put s.h s.n (some o),n:=s.n+1 }
def sizeD (t:TypeId):Option Nat:=(P.info? t).map (·.size)
def aggD (t:TypeId):Option Bool :=
 match P.underlying t with
 | some (.struct _) | some (.array _ _)=>some true
 | some _=>some false
 | none=>none
def zeroD (t:TypeId):Option (List Value):=((P.info? t).bind (·.zero)).bind fun v=>bif v.cells.toList.all flat1 then some (v.cells.toList.map nz1) else none
def zeroV (t:TypeId):Option Value:=((P.info? t).bind (·.zero)).bind fun v=>bif flat v then some (nz v) else none
def takeD (cs:List Value) (o n:Nat):Option (List Value):=bif Nat.beq ((cs.drop o).take n).length n then some ((cs.drop o).take n) else none
def splice (cs:List Value) (o:Nat) (l:List Value):List Value:=cs.take o++(l++cs.drop (o+l.length))
def partD (t:TypeId) (cs:List Value) (o:Nat):Option Value :=
 (aggD P t).bind fun g=>cond g ((sizeD P t).bind fun n=>(takeD cs o n).map fun l=>.agg l.toArray) (cs[o]?)
def loadD (s:St H) (t:TypeId) (a:Value):Option Value :=
 match a with
 | .pointer (some ⟨id,o,none⟩)=>(rowD s id).bind fun cs=>partD P t cs o
 | .iface o (.tuple arr)=>match arr.toList with
  | [.tuple cs]=>partD P t cs.toList o
  | [.tuple _,.int _ g]=>(H.glob g.toNat).bind fun cs=>partD P t cs.toList o
  | _=>none
 | _=>none
def storeAt (s:St H) (id o:Nat) (l:List Value):Option (St H) :=
 (rowD s id).bind fun r =>
  bif l.all oneC&&Nat.ble (o+l.length) r.length then some (putD s id (.row (splice r o l))) else none
def storeD (s:St H) (t:TypeId) (a v:Value):Option (St H) :=
 (ptrD a).bind fun p=>(sizeD P t).bind fun n=>bif Nat.beq v.cells.toList.length n then storeAt s p.1 p.2 v.cells.toList else none
def allocD (s:St H) (t:TypeId):Option (Value×St H):=(zeroD P t).map fun l=>(.pointer (some ⟨s.n,0,none⟩),newD s (.row l))
def boxD (s:St H) (v:Value):Option (Value×St H):=bif v.cells.toList.all oneC then some (.pointer (some ⟨s.n,0,none⟩),newD s (.row v.cells.toList)) else none
def elD (z:Nat) (arr:Array Value) (i:Nat):Option (Array Value) :=
 match arr.toList[i]? with
 | some (.agg c)=>bif Nat.beq c.size z then some c else none
 | _=>none
def fzOk (z:Nat) (arr:Array Value):Bool :=
 match arr.toList with
 | []=>true
 | .agg c::_=>Nat.beq c.size z
 | _=>false
def isFz (arr:Array Value):Bool :=
 match arr.toList with
 | []=>true
 | .agg _::_=>true
 | _=>false
def aggL:List Value→Option (List Value)
 | []=>some []
 | .agg e::l=>(aggL l).map (e.toList++·)
 | _=>none
def chunkL (z n:Nat) (cs:List Value):List Value:=(List.range n).map fun i=>.agg ((cs.drop (i*z)).take z).toArray
def indexAddrD (t:TypeId) (x i:Value):Option Value :=
 match i,P.underlying t,x with
 | .int _ k,some (.array len e),.pointer (some ⟨id,o,none⟩)=>(sizeD P e).bind fun z=>bif decide (0≤k)&&decide (k<len) then some (.pointer (some ⟨id,o+k.toNat*z,none⟩)) else none
 | .int _ k,some (.slice e),.slice (some ⟨id,o,none⟩) len _=>(sizeD P e).bind fun z=>bif decide (0≤k)&&decide (k<len) then some (.pointer (some ⟨id,o+k.toNat*z,none⟩)) else none
 | .int _ k,some (.slice e),.iface _ (.tuple arr)=>(sizeD P e).bind fun z=>bif decide (0≤k) then (elD z arr k.toNat).map fun c=>fpV c 0 else none
 | .int _ k,some (.array len e),.iface o (.tuple arr)=>match arr.toList with
  | [.tuple cs]=>(sizeD P e).bind fun z=>bif decide (0≤k)&&decide (k<len) then some (fpV cs (o+k.toNat*z)) else none
  | [.tuple _,.int _ g]=>(sizeD P e).bind fun z=>bif decide (0≤k)&&decide (k<len) then some (gpV g.toNat (o+k.toNat*z)) else none
  | _=>none
 | _,_,_=>none
def fieldAddrD (t:TypeId) (x:Value) (f:Nat):Option Value :=
 match P.underlying t,x with
 | some (.struct fields),.pointer (some ⟨id,o,none⟩)=>(fields[f]?).bind fun fd=>(sizeD P fd.type).bind fun z=>bif Nat.beq z 0 then none else some (.pointer (some ⟨id,o+fd.offset,none⟩))
 | some (.struct fields),.iface o (.tuple arr)=>match arr.toList with
  | [.tuple cs]=>(fields[f]?).bind fun fd=>(sizeD P fd.type).bind fun z=>bif Nat.beq z 0 then none else some (fpV cs (o+fd.offset))
  | [.tuple _,.int _ g]=>(fields[f]?).bind fun fd=>(sizeD P fd.type).bind fun z=>bif Nat.beq z 0 then none else some (gpV g.toNat (o+fd.offset))
  | _=>none
 | _,_=>none
def fieldD (t:TypeId) (x:Value) (f:Nat):Option Value :=
 match P.underlying t,x with
 | some (.struct fields),.agg cs=>(fields[f]?).bind fun fd=>partD P fd.type cs.toList fd.offset
 | _,_=>none
def pureD (s:Sem Value):Option Value:=(runP P s).bind fun v=>bif flat v then some v else none
def binD (op:BinOp) (t:TypeId) (x y:Value):Option Value :=
 bif flat x&&flat y then pureD P (do eqGuard op t (.tmp 0) (.tmp 0) x y; binOp op t x y) else none
def nilEq (u:Option TypeDesc) (x y:Value):Bool :=
 match u,x,y with
 | some (.slice _),.iface _ (.tuple a),.iface 2 (.tuple b)=>Nat.blt 0 a.size&&isFz a&&Nat.beq b.size 0
 | some (.slice _),.slice (some _) _ _,.iface 2 (.tuple b)=>Nat.beq b.size 0
 | some (.pointer _),.pointer (some _),.pointer none | some (.pointer _),.pointer none,.pointer (some _)
 | some (.map _ _),.map (some _),.map none | some (.map _ _),.map none,.map (some _) | some (.func _ _ _),.func _ _ _,.nilFunc | some (.func _ _ _),.nilFunc,.func _ _ _=>true
 | _,_,_=>false
def nilNil (u:Option TypeDesc) (x y:Value):Bool :=
 match u,x,y with
 | some (.slice _),.iface 2 (.tuple a),.iface 2 (.tuple b)=>Nat.beq a.size 0&&Nat.beq b.size 0
 | _,_,_=>false
def nilD (op:BinOp) (t:TypeId) (x y:Value):Option Value :=
 match op with
 | .eql=>bif nilEq (P.underlying t) x y then some (.bool false) else bif nilNil (P.underlying t) x y then some (.bool true) else none
 | .neq=>bif nilEq (P.underlying t) x y then some (.bool true) else bif nilNil (P.underlying t) x y then some (.bool false) else none
 | _=>none
def optInt:Option Value→Option (Option Nat)
 | none=>some none
 | some (.int _ k)=>bif decide (0≤k) then some (some k.toNat) else none
 | some _=>none
def sliceD (t:TypeId) (x:Value) (lo hi mx:Option Value):Option Value :=
 (optInt lo).bind fun l=>(optInt hi).bind fun h=>(optInt mx).bind fun m =>
 match P.underlying t,x with
 | some .string,.string b => 
  bif m.isNone&&Nat.ble (l.getD 0) (h.getD b.size)&&Nat.ble (h.getD b.size) b.size then some (.string (b.extract (l.getD 0) (h.getD b.size))) else none
 | some (.slice e),.slice (some ⟨id,o,none⟩) len c=>(sizeD P e).bind fun z =>
  bif Nat.beq (c / 2) z&&Nat.ble (l.getD 0) (h.getD len)&&Nat.ble (h.getD len) len&&Nat.ble (h.getD len) (m.getD len)&&Nat.ble (m.getD len) len&&(h.isSome||m.isNone) then
   some (.slice (some ⟨id,o+l.getD 0*z,none⟩) (h.getD len-l.getD 0) (2*z+(bif (m.isSome||Nat.beq (c % 2) 1)&&Nat.beq (h.getD len) (m.getD len) then 1 else 0)))
  else none
 | some (.slice e),.iface k (.tuple arr)=>(sizeD P e).bind fun z =>
  bif fzOk z arr&&Nat.ble (l.getD 0) (h.getD arr.size)&&Nat.ble (h.getD arr.size) arr.size&&Nat.ble (h.getD arr.size) (m.getD arr.size)&&Nat.ble (m.getD arr.size) arr.size&&(h.isSome||m.isNone) then
   some (fzV (bif Nat.beq k 2 then 2 else match m with
    | some q=>bif Nat.beq (h.getD arr.size) q then 1 else 0
    | none=>match h with
     | some _=>0
     | none=>match l with
      | some _=>bif Nat.beq k 1 then 1 else 0
      | none=>k) ((arr.toList.take (h.getD arr.size)).drop (l.getD 0)).toArray)
  else none
 | _,_=>none
def sliceArrD (s:St H) (t:TypeId) (x:Value) (lo hi:Option Value):Option Value :=
 (optInt lo).bind fun l=>(optInt hi).bind fun h =>
 match P.underlying t,x with
 | some (.array n e),.pointer (some ⟨id,o,none⟩)=>(sizeD P e).bind fun z=>(rowD s id).bind fun r =>
  bif Nat.ble (l.getD 0) (h.getD n)&&Nat.ble (h.getD n) n&&Nat.ble (o+n*z) r.length then
   some (.slice (some ⟨id,o+l.getD 0*z,none⟩) (h.getD n-l.getD 0) (2*z+(bif Nat.beq (h.getD n) n then 1 else 0))) else none
 | _,_=>none
def repeatL (n:Nat) (l:List Value):List Value:=match n with
 | 0=>[]
 | n+1=>l++repeatL n l
def makeSliceD (md:Bool) (s:St H) (t:TypeId) (len cap:Value):Option (Value×St H) :=
 match P.underlying t,len,cap with
 | some (.slice e),.int _ l,.int _ c=>(P.info? e).bind fun i=>(zeroD P e).bind fun zs =>
  bif decide (0≤l)&&decide (l≤c)&&decide (i.bytes*c≤140737488355328)&&decide (c≤140737488355328)&&Nat.beq zs.length i.size then
   bif !md&&(decide (l=0)&&Nat.blt 0 i.size) then some (fzV (s.n+3) #[],newD s (.tok 0 i.size)) else
   some (.slice (some ⟨s.n,0,none⟩) l.toNat (2*i.size+(bif decide (l=c) then 1 else 0)),newD s (.row (repeatL l.toNat zs)))
  else none
 | _,_,_=>none
def cellsD (s:St H) (z n:Nat) (x:Value):Option (List Value) :=
 match x with
 | .slice (some ⟨id,o,none⟩) len c=>bif Nat.ble n len&&Nat.beq (c / 2) z then (bif Nat.beq n 0 then some [] else (rowD s id).bind fun r=>takeD r o (n*z)) else none
 | .iface _ (.tuple arr)=>bif Nat.ble n arr.size&&fzOk z arr then aggL (arr.toList.take n) else none
 | .string b=>bif Nat.beq z 1 then takeD (b.data.toList.map fun u=>.int .u8 u.toNat) 0 n else none
 | _=>none
def elemsD (s:St H) (z n:Nat) (x:Value):Option (List Value) :=
 match x with
 | .iface _ (.tuple arr)=>bif Nat.ble n arr.size&&fzOk z arr then some (arr.toList.take n) else none
 | x=>(cellsD s z n x).bind fun l=>bif l.all oneC then some (chunkL z n l) else none
def lenD:Value→Option Nat
 | .slice (some _) len _=>some len
 | .iface _ (.tuple arr)=>bif isFz arr then some arr.size else none
 | .string b=>some b.size
 | _=>none
def rowOf (els:List Value):List Value:=(els.map fun v=>match v with | .agg c=>c.toList | _=>[]).flatten
def appNew (md:Bool) (s:St H) (z n:Nat) (els:List Value):Value×St H :=
 cond md (.slice (some ⟨s.n,0,none⟩) n (2*z),newD s (.row (rowOf els))) (fzV (s.n+3) els.toArray,newD s (.tok n z))
def appendZ (s:St H) (t:TypeId) (x y:Value):Option (Value×St H) :=
 match P.underlying t,y with
 | some (.slice e),.int _ n=>(P.info? e).bind fun i=>(lenD x).bind fun len=>(zeroD P e).bind fun zs =>
  bif decide (0<n)&&decide ((len+n.toNat)*i.bytes≤140737488355328)&&decide (len+n.toNat≤140737488355328)&&Nat.beq zs.length i.size&&Nat.blt 0 i.size then
   match x with
   | .iface m (.tuple arr)=>bif fzOk i.size arr&&(Nat.beq m 1||Nat.beq m 2) then
    (cellsD s i.size len x).bind fun old=>bif old.all oneC then some (.slice (some ⟨s.n,0,none⟩) (len+n.toNat) (2*i.size),newD s (.row (old++repeatL n.toNat zs))) else none
    else none
   | _=>none
  else none
 | _,_=>none
def appendD (md:Bool) (s:St H) (t xt:TypeId) (x y:Value):Option (Value×St H) :=
 match P.underlying t,P.underlying xt with
 | some (.slice e),some xu=>(match xu with | .slice _ | .string=>some () | _=>none).bind fun _ =>
  (P.info? e).bind fun i=>(lenD y).bind fun n=>(lenD x).bind fun len=>(zeroD P e).bind fun zs =>
  bif decide ((len+n)*i.bytes≤140737488355328)&&decide (len+n≤140737488355328)&&Nat.beq zs.length i.size&&Nat.blt 0 i.size then
   (match x with
    | .iface m (.tuple arr)=>bif fzOk i.size arr then
     match m with
     | 0=>bif Nat.beq n 0 then some (x,s) else none
     | 1=>(elemsD s i.size n y).map fun new=>cond (md&&Nat.beq n 0) (x,s) (appNew md s i.size (len+n) (arr.toList++new))
     | 2=>(elemsD s i.size n y).map fun new=>cond (md&&Nat.beq n 0) (x,s) (appNew md s i.size (len+n) (arr.toList++new))
     | id+3=>(elemsD s i.size n y).bind fun new=>(tokD s id).bind fun L=>bif Nat.beq L.1 len&&Nat.beq L.2 i.size then some (fzV (id+3) (arr.toList++new).toArray,putD s id (.tok (len+n) i.size)) else none
     else none
    | .slice (some ⟨id,o,none⟩) _ c=>bif Nat.beq n 0 then some (x,s) else
     (cellsD s i.size n y).bind fun new=>bif !(new.all oneC) then none else
     (bif Nat.beq (c % 2) 1 then (cellsD s i.size len x).map fun old=>(old,s)
      else (rowD s id).bind fun r=>bif Nat.beq (c / 2) i.size then (takeD r o (len*i.size)).map fun old=>(old,{ s with h:=H.put s.h id none }) else none).bind fun p =>
     some (.slice (some ⟨p.2.n,0,none⟩) (len+n) (2*i.size),newD p.2 (.row (p.1++new)))
    | _=>none)
  else none
 | _,_=>none
def copyD (s:St H) (t:TypeId) (d x:Value):Option (Value×St H) :=
 match P.underlying t with
 | some (.slice e)=>(sizeD P e).bind fun z=>(lenD x).bind fun n=>(lenD d).bind fun m =>
  bif Nat.beq (Nat.min n m) 0 then (match d with | .string _=>none | _=>some (.int .i64 0,s)) else
  (cellsD s z (Nat.min n m) x).bind fun l =>
  match d with
  | .slice (some ⟨id,o,none⟩) _ c=>bif Nat.beq (c / 2) z then (storeAt s id o l).map fun s'=>(.int .i64 (Nat.min n m),s') else none
  | _=>none
 | _=>none
def lenOfD (s:St H) (t:TypeId) (x:Value):Option Value :=
 match P.underlying t,x with
 | some .string,.string b=>some (.int .i64 b.size)
 | some (.slice _),.slice (some _) n _=>some (.int .i64 n)
 | some (.slice _),.iface _ (.tuple arr)=>bif isFz arr then some (.int .i64 arr.size) else none
 | some (.map _ _),.map none=>some (.int .i64 0)
 | some (.map _ _),.map (some id)=>(mapD s id).map fun es=>.int .i64 es.1.length
 | some (.array n _),_=>some (.int .i64 n)
 | _,_=>none
def capOfD (t:TypeId) (x:Value):Option Value :=
 match P.underlying t,x with
 | some (.slice _),.slice (some _) n c=>bif Nat.beq (c % 2) 1 then some (.int .i64 n) else none
 | some (.slice _),.iface k (.tuple arr)=>bif isFz arr&&(Nat.beq k 1||Nat.beq k 2) then some (.int .i64 arr.size) else none
 | _,_=>none
def buildD (t:TypeId) (parts:List (Nat×Value)):Option Value :=
 ((zeroD P t).map (·.toArray)).bind fun zero =>
 bif !(parts.all fun x=>x.2.cells.toList.all oneC) then none else
 match P.underlying t with
 | some (.struct fields) => 
  (fields.toList.mapM fun (f:Field)=>(sizeD P f.type).map fun z=>(f.offset,z)).bind fun places =>
   (Instr.fill (fun i=>places[i]?) zero parts).map .agg
 | some (.array _ e)=>(sizeD P e).bind fun z=>(Instr.fill (fun i=>some (i*z,z)) zero parts).map .agg
 | _=>none
def buildSliceD (md:Bool) (s:St H) (t:TypeId) (len:Nat) (parts:List (Nat×Value)):Option (Value×St H) :=
 match P.underlying t with
 | some (.slice e)=>(sizeD P e).bind fun z =>
  bif Nat.ble (len*z) 16777216&&(parts.all fun x=>x.2.cells.toList.all oneC) then
   (bif Nat.beq (len*z) 0 then some #[] else (zeroD P e).map (·.toArray)).bind fun zero =>
   (Instr.fill (fun i=>some (i*z,z)) ((Array.range (len*z)).map (zero[· % zero.size]!)) parts).bind fun cells =>
   cond md (some (.slice (some ⟨s.n,0,none⟩) len (2*z+1),newD s (.row cells.toList)))
    (bif cells.toList.all oneC&&Nat.blt 0 z then some (fzV 1 (chunkL z len cells.toList).toArray,s) else none)
  else none
 | _=>none
def bytesOf:List Value→Option (List UInt8)
 | []=>some []
 | .int .u8 n::l=>(bytesOf l).map fun r=>UInt8.ofNat n.toNat::r
 | _=>none
def convertD (md:Bool) (s:St H) (src dst:TypeId) (x:Value):Option (Value×St H) :=
 match P.underlying src,P.underlying dst,x with
 | some _,some (.int k),.int _ n=>some (.int k (k.wrap n),s)
 | some (.int _),some .string,.int _ n=>some (.string (Utf8.encode n),s)
 | some .string,some .string,.string b=>some (.string b,s)
 | some .string,some (.slice e),.string b=>match P.underlying e with
  | some (.int .u8)=>cond md none (some (fzV 0 (b.data.toList.map fun u=>Value.agg #[.int .u8 u.toNat]).toArray,s))
  | _=>none
 | some (.slice e),some .string,.slice (some ⟨id,o,none⟩) len c=>match P.underlying e with
  | some (.int .u8)=>bif Nat.beq (c / 2) 1 then (cellsD s 1 len (.slice (some ⟨id,o,none⟩) len c)).bind fun l=>(bytesOf l).map fun b=>(.string ⟨b.toArray⟩,s) else none
  | _=>none
 | some (.slice e),some .string,.iface k (.tuple arr)=>match P.underlying e with
  | some (.int .u8)=>(cellsD s 1 arr.size (.iface k (.tuple arr))).bind fun l=>(bytesOf l).map fun b=>(.string ⟨b.toArray⟩,s)
  | _=>none
 | _,_,_=>none
def extractD (x:Value) (i:Nat):Option Value :=
 match x with
 | .tuple vs=>match vs.toList with
  | [.bool b]=>bif Nat.beq i 0 then some (.bool b) else none
  | [_]=>none
  | l=>l[i]?
 | _=>none
def nilCheckD:Value→Option Value
 | .pointer (some a)=>some (.pointer (some a))
 | .func (.func f) a b=>some (.func (.func f) a b)
 | .func (.yield l) a b=>some (.func (.yield l) a b)
 | .iface o (.tuple arr)=>match arr.toList with
  | [.tuple _] | [.tuple _,.int _ _]=>some (.iface o (.tuple arr))
  | _=>none
 | _=>none
def indexD (t:TypeId) (x i:Value):Option Value :=
 match i,P.underlying t,x with
 | .int _ k,some (.array len e),.agg cs=>(sizeD P e).bind fun z=>bif decide (0≤k)&&decide (k<len) then partD P e cs.toList (k.toNat*z) else none
 | .int _ k,some .string,.string b=>bif decide (0≤k) then (b.data.toList[k.toNat]?).map fun u=>.int .u8 u.toNat else none
 | _,_,_=>none
def keyEq:Value→Value→Option Bool
 | .int k a,.int k' b=>bif decide (k=k') then some (decide (a=b)) else none
 | .string a,.string b=>some (a == b)
 | .bool a,.bool b=>some (a == b)
 | _,_=>none
def findD (k:Value):List (Value×Value×Nat)→Nat→Option (Option (Nat×Value))
 | [],_=>some none
 | e::es,i=>(keyEq k e.1).bind fun b=>cond b (some (some (i,e.2.1))) (findD k es (i+1))
def keyFit (t:TypeId) (k:Value):Bool :=
 match P.underlying t,k with
 | some .bool,.bool _ | some (.int _),.int _ _ | some .string,.string _=>true
 | _,_=>false
def okHint:Option Value→Bool
 | none=>true
 | some (.int _ _)=>true
 | _=>false
def makeMapD (s:St H) (t:TypeId):Option (Value×St H) :=
 match P.underlying t with
 | some (.map _ _)=>some (.map (some s.n),newD s (.map [] 0))
 | _=>none
def lookupD (s:St H) (t:TypeId) (x k:Value) (ok:Bool):Option Value :=
 match P.underlying t with
 | some (.map kt et)=>bif keyFit P kt k then
  (match x with
   | .map none=>some ([],0)
   | .map (some id)=>mapD s id
   | _=>none).bind fun es=>(findD k es.1 0).bind fun r => 
  (match r with
   | some (_,v)=>some (v,true)
   | none=>(zeroV P et).map fun v=>(v,false)).map fun (p:Value×Bool)=>cond ok (.tuple #[p.1,.bool p.2]) p.1
  else none
 | _=>none
def mapUpdateD (s:St H) (t:TypeId) (x k v:Value):Option (St H) :=
 match P.underlying t,x with
 | some (.map kt _),.map (some id)=>bif keyFit P kt k then
  (mapD s id).bind fun es=>(findD k es.1 0).bind fun r =>
  match r with
  | some (i,_)=>(es.1[i]?).map fun e=>putD s id (.map (es.1.set i (k,v,e.2.2)) es.2)
  | none=>some (putD s id (.map (es.1++[(k,v,es.2)]) (es.2+1)))
  else none
 | _,_=>none
def deleteD (s:St H) (t:TypeId) (x k:Value):Option (St H) :=
 match P.underlying t with
 | some (.map kt _)=>bif keyFit P kt k then
  (match x with
   | .map none=>some s
   | .map (some id)=>(mapD s id).bind fun es=>(findD k es.1 0).map fun r => 
    match r with
    | some (i,_)=>putD s id (.map (es.1.eraseIdx i) es.2)
    | none=>putD s id (.map es.1 es.2)
   | _=>none)
  else none
 | _=>none
def mapEntryD (s:St H) (t:TypeId) (x k:Value):Option (Value×St H) :=
 match P.underlying t,x with
 | some (.map kt et),.map (some id)=>bif keyFit P kt k then
  (mapD s id).bind fun es=>(findD k es.1 0).bind fun r =>
  match r with
  | some (i,_)=>(es.1[i]?).map fun e=>(.tuple #[e.2.1,.int .i64 e.2.2],putD s id (.map (es.1.set i (k,e.2.1,e.2.2)) es.2))
  | none=>(zeroV P et).map fun z=>(.tuple #[z,.int .i64 es.2],putD s id (.map (es.1++[(k,z,es.2)]) (es.2+1)))
  else none
 | _,_=>none
def bornAt (b:Nat):List (Value×Value×Nat)→Nat→Option Nat
 | [],_=>none
 | e::l,i=>bif Nat.beq e.2.2 b then some i else bornAt b l (i+1)
def entryStoreD (s:St H) (_:TypeId) (x b v:Value):Option (St H) :=
 match x,b with
 | .map (some id),.int _ b=>(mapD s id).bind fun es=>bif decide (0≤b) then (bornAt b.toNat es.1 0).bind fun i=>(es.1[i]?).map fun e=>putD s id (.map (es.1.set i (e.1,v,e.2.2)) es.2) else none
 | _,_=>none
def clearD (s:St H) (t:TypeId) (x:Value):Option (St H) :=
 match P.underlying t,x with
 | some (.slice e),.slice (some ⟨id,o,none⟩) n c=>(P.info? e).bind fun i=>(zeroD P e).bind fun zs=>bif Nat.beq zs.length i.size&&Nat.beq (c / 2) i.size then (bif Nat.beq n 0 then some s else storeAt s id o (repeatL n zs)) else none
 | _,_=>none
def isInt (t:TypeId):Bool :=
 match P.underlying t with
 | some (.int _)=>true
 | _=>false
def rangeD (s:St H) (t:TypeId) (x:Value):Option (Value×St H) :=
 match P.underlying t,x with
 | some (.map _ _),.map none=>some (.pointer (some ⟨s.n,0,none⟩),newD s (.iter none 0 [] 0))
 | some (.map _ _),.map (some id)=>(mapD s id).map fun es=>(.pointer (some ⟨s.n,0,none⟩),newD s (.iter (some id) es.2 [] es.2))
 | _,_=>none
def candD (es:List (Value×Value×Nat)) (since:Nat) (seen:List Nat):List (Option (Value×Value×Nat)) :=
 let left:=es.filter fun e=>!seen.contains e.2.2
 let old:=left.filter fun e=>Nat.blt e.2.2 since
 let new:=left.filter fun e=>!Nat.blt e.2.2 since
 (bif old.isEmpty then [none] else [])++(old++new).map some
def nextIt (s:St H) (it:Nat) (m:Nat) (since clock:Nat) (seen:List Nat) (e:Option (Value×Value×Nat)):Value×St H :=
 match e with
 | some e=>(.tuple #[.bool true,e.1,e.2.1],putD s it (.iter (some m) since (seen++[e.2.2]) clock))
 | none=>(.tuple #[.bool false],s)
def nextsD (s:St H) (it:Value):Option (List (Value×St H)) :=
 match it with
 | .pointer (some ⟨r,0,none⟩)=>match H.get s.h r with
  | some (.iter none _ _ _)=>some [(.tuple #[.bool false],s)]
  | some (.iter (some m) since seen last)=>(mapD s m).bind fun es =>
   bif !seen.isEmpty&&!es.1.isEmpty&&es.1.all (fun e=>!Nat.blt e.2.2 last) then none else
   some ((candD es.1 since seen).map (nextIt s r m since es.2 seen))
  | _=>none
 | _=>none
def entryD (s:St H) (it:Value):Option Value :=
 match it with
 | .pointer (some ⟨r,0,none⟩)=>match H.get s.h r with
  | some (.iter (some m) _ seen last)=>(seen.getLast?).bind fun b=>(mapD s m).bind fun es=>bif Nat.beq es.2 last then (bornAt b es.1 0).bind fun i=>(es.1[i]?).map fun e=>.tuple #[e.1,e.2.1] else none
  | _=>none
 | _=>none
def nextD (s:St H) (it:Value):Option (Value×St H) :=
 match nextsD s it with
 | some [p]=>some p
 | _=>none
end prims
inductive Tgt where
 | fn (f:FuncId)
 | yld (l:Nat)
def tgtD (f:Value) (args:List Value):Option (Tgt×List Value) :=
 match f with
 | .func (.func f) first cap=>some (.fn f,(first.toList++args)++cap.toList)
 | .func (.yield l) first _=>some (.yld l,first.toList++args)
 | _=>none
abbrev Oracle (H:HeapI):=Tgt→List Value→St H→Option (Value×St H)
abbrev OracleJ (H:HeapI):=Tgt→List Value→St H→Option (List (Value×St H))
def oneO {H:HeapI} (C:OracleJ H):Oracle H:=fun g a s=>match C g a s with
 | some [p]=>some p
 | _=>none
def joinO {X:Type}:List (Option (List X))→Option (List X)
 | []=>some []
 | none::_=>none
 | some l::r=>(joinO r).map (l++·)
def manyK {H:HeapI} {X:Type} (L:List (Value×St H)) (k:Value→St H→Option (List X)):Option (List X) :=
 match L with
 | [p]=>k p.1 p.2
 | L=>joinO (L.map fun p=>k p.1 p.2)
def evalO (t:List Value):Operand→Value
 | .tmp i=>t.getD i undefV
 | .const v=>bif flat v then nz v else dc
 | .global g=>gpV g 0
 | .func f=>.func (.func f) #[] #[]
section exec
variable (P:Program) (md:Bool) {H:HeapI} {R:Type}
def opK (C:Oracle H) (o:Oper) (t:List Value) (s:St H) (k:Value→St H→Option R):Option R :=
 match o.op with
 | .move x | .assign x=>k (evalO t x) s
 | .pick c a b=>(boolD (evalO t c)).bind fun x=>cond x (k (evalO t a) s) (k (evalO t b) s)
 | .alloc e=>(allocD P s e).bind fun p=>k p.1 p.2
 | .box _ v=>(boxD s (evalO t v)).bind fun p=>k p.1 p.2
 | .build e parts=>(buildD P e (parts.toList.map fun x=>(x.1,evalO t x.2))).bind fun v=>k v s
 | .buildSlice e len parts=>(buildSliceD P md s e len (parts.toList.map fun x=>(x.1,evalO t x.2))).bind fun p=>k p.1 p.2
 | .load e a=>(loadD P s e (evalO t a)).bind fun v=>k v s
 | .store e a v=>(storeD P s e (evalO t a) (evalO t v)).bind fun s'=>k undefV s'
 | .nilCheck x=>(nilCheckD (evalO t x)).bind fun v=>k v s
 | .binOp op e x y _=>((binD P op e (evalO t x) (evalO t y)).or (nilD P op e (evalO t x) (evalO t y))).bind fun v=>k v s
 | .unOp op _ x=>(bif flat (evalO t x) then pureD P (Op.unary op (evalO t x)) else none).bind fun v=>k v s
 | .convert a b x=>(convertD P md s a b (evalO t x)).bind fun p=>k p.1 p.2
 | .makeFunc (.func f) first cap=>k (.func (.func f) (first.map (evalO t)) (cap.map (evalO t))) s
 | .makeSlice e l c=>(makeSliceD P md s e (evalO t l) (evalO t c)).bind fun p=>k p.1 p.2
 | .slice e x l h m=>((sliceD P e (evalO t x) (l.map (evalO t)) (h.map (evalO t)) (m.map (evalO t))).or (match m with | none=>sliceArrD P s e (evalO t x) (l.map (evalO t)) (h.map (evalO t)) | some _=>none)).bind fun v=>k v s
 | .fieldAddr e x f=>(fieldAddrD P e (evalO t x) f).bind fun v=>k v s
 | .field e x f=>(fieldD P e (evalO t x) f).bind fun v=>k v s
 | .indexAddr e x i=>(indexAddrD P e (evalO t x) (evalO t i)).bind fun v=>k v s
 | .index e x i=>(indexD P e (evalO t x) (evalO t i)).bind fun v=>k v s
 | .extract x i=>(extractD (evalO t x) i).bind fun v=>k v s
 | .makeMap e r=>(bif okHint (r.map (evalO t)) then makeMapD P s e else none).bind fun p=>k p.1 p.2
 | .lookup e x i ok=>(lookupD P s e (evalO t x) (evalO t i) ok).bind fun v=>k v s
 | .mapUpdate e m i x=>(mapUpdateD P s e (evalO t m) (evalO t i) (evalO t x)).bind fun s'=>k undefV s'
 | .insert e m i x=>(mapUpdateD P s e (evalO t m) (evalO t i) (evalO t x)).bind fun s'=>k undefV s'
 | .mapEntry e m i=>(mapEntryD P s e (evalO t m) (evalO t i)).bind fun p=>k p.1 p.2
 | .entryStore e m i x=>(entryStoreD s e (evalO t m) (evalO t i) (evalO t x)).bind fun s'=>k undefV s'
 | .range e x=>(rangeD P s e (evalO t x)).bind fun p=>k p.1 p.2
 | .next it isS=>(bif isS then none else nextD s (evalO t it)).bind fun p=>k p.1 p.2
 | .entry it=>(entryD s (evalO t it)).bind fun v=>k v s
 | .call c=>match c.callee,c.args.toList,c.argTypes.toList with
  | .builtin .len,[x],[e]=>(lenOfD P s e (evalO t x)).bind fun v=>k v s
  | .builtin .cap,[x],[e]=>(capOfD P e (evalO t x)).bind fun v=>k v s
  | .builtin .append,[x,y],[e,f]=>(bif isInt P f then appendZ P s e (evalO t x) (evalO t y) else appendD P md s e f (evalO t x) (evalO t y)).bind fun p=>k p.1 p.2
  | .builtin .clear,[x],[e]=>(clearD P s e (evalO t x)).bind fun s'=>k (.tuple #[]) s'
  | .builtin .delete,[x,y],e::_=>(deleteD P s e (evalO t x) (evalO t y)).bind fun s'=>k (.tuple #[]) s'
  | .builtin .copy,[x,y],e::_=>(copyD P s e (evalO t x) (evalO t y)).bind fun p=>k p.1 p.2
  | .builtin .min,x::l,_=>(bif flat (evalO t x)&&(l.map (evalO t)).all flat then pureD P ((l.map (evalO t)).foldlM Builtin.min2 (evalO t x)) else none).bind fun v=>k v s
  | .builtin .max,x::l,_=>(bif flat (evalO t x)&&(l.map (evalO t)).all flat then pureD P ((l.map (evalO t)).foldlM Builtin.max2 (evalO t x)) else none).bind fun v=>k v s
  | .value f,args,_=>(tgtD (evalO t f) (args.map (evalO t))).bind fun g=>(C g.1 g.2 s).bind fun p=>k p.1 p.2
  | _,_,_=>none
 | _=>none
def kf_pick (P:Program) (md:Bool) {H:HeapI} {R:Type} (C:Oracle H) (t:List Value) (s:St H) (k:Value→St H→Option R) (c:Operand) (a:Operand) (b:Operand):Option R :=
 (boolD (evalO t c)).bind fun x=>cond x (k (evalO t a) s) (k (evalO t b) s)
def kf_alloc (P:Program) (md:Bool) {H:HeapI} {R:Type} (C:Oracle H) (t:List Value) (s:St H) (k:Value→St H→Option R) (e:TypeId):Option R :=
 (allocD P s e).bind fun p=>k p.1 p.2
def kf_box (P:Program) (md:Bool) {H:HeapI} {R:Type} (C:Oracle H) (t:List Value) (s:St H) (k:Value→St H→Option R) (x0:TypeId) (v:Operand):Option R :=
 (boxD s (evalO t v)).bind fun p=>k p.1 p.2
def kf_build (P:Program) (md:Bool) {H:HeapI} {R:Type} (C:Oracle H) (t:List Value) (s:St H) (k:Value→St H→Option R) (e:TypeId) (parts:Array (Nat×Operand)):Option R :=
 (buildD P e (parts.toList.map fun x=>(x.1,evalO t x.2))).bind fun v=>k v s
def kf_buildSlice (P:Program) (md:Bool) {H:HeapI} {R:Type} (C:Oracle H) (t:List Value) (s:St H) (k:Value→St H→Option R) (e:TypeId) (len:Nat) (parts:Array (Nat×Operand)):Option R :=
 (buildSliceD P md s e len (parts.toList.map fun x=>(x.1,evalO t x.2))).bind fun p=>k p.1 p.2
def kf_load (P:Program) (md:Bool) {H:HeapI} {R:Type} (C:Oracle H) (t:List Value) (s:St H) (k:Value→St H→Option R) (e:TypeId) (a:Operand):Option R :=
 (loadD P s e (evalO t a)).bind fun v=>k v s
def kf_store (P:Program) (md:Bool) {H:HeapI} {R:Type} (C:Oracle H) (t:List Value) (s:St H) (k:Value→St H→Option R) (e:TypeId) (a:Operand) (v:Operand):Option R :=
 (storeD P s e (evalO t a) (evalO t v)).bind fun s'=>k undefV s'
def kf_nilCheck (P:Program) (md:Bool) {H:HeapI} {R:Type} (C:Oracle H) (t:List Value) (s:St H) (k:Value→St H→Option R) (x:Operand):Option R :=
 (nilCheckD (evalO t x)).bind fun v=>k v s
def kf_binOp (P:Program) (md:Bool) {H:HeapI} {R:Type} (C:Oracle H) (t:List Value) (s:St H) (k:Value→St H→Option R) (op:BinOp) (e:TypeId) (x:Operand) (y:Operand) (x4:TypeId):Option R :=
 ((binD P op e (evalO t x) (evalO t y)).or (nilD P op e (evalO t x) (evalO t y))).bind fun v=>k v s
def kf_unOp (P:Program) (md:Bool) {H:HeapI} {R:Type} (C:Oracle H) (t:List Value) (s:St H) (k:Value→St H→Option R) (op:UnOp) (x1:TypeId) (x:Operand):Option R :=
 (bif flat (evalO t x) then pureD P (Op.unary op (evalO t x)) else none).bind fun v=>k v s
def kf_convert (P:Program) (md:Bool) {H:HeapI} {R:Type} (C:Oracle H) (t:List Value) (s:St H) (k:Value→St H→Option R) (a:TypeId) (b:TypeId) (x:Operand):Option R :=
 (convertD P md s a b (evalO t x)).bind fun p=>k p.1 p.2
def kf_makeSlice (P:Program) (md:Bool) {H:HeapI} {R:Type} (C:Oracle H) (t:List Value) (s:St H) (k:Value→St H→Option R) (e:TypeId) (l:Operand) (c:Operand):Option R :=
 (makeSliceD P md s e (evalO t l) (evalO t c)).bind fun p=>k p.1 p.2
def kf_slice (P:Program) (md:Bool) {H:HeapI} {R:Type} (C:Oracle H) (t:List Value) (s:St H) (k:Value→St H→Option R) (e:TypeId) (x:Operand) (l:Option Operand) (h:Option Operand) (m:Option Operand):Option R :=
 ((sliceD P e (evalO t x) (l.map (evalO t)) (h.map (evalO t)) (m.map (evalO t))).or (match m with | none=>sliceArrD P s e (evalO t x) (l.map (evalO t)) (h.map (evalO t)) | some _=>none)).bind fun v=>k v s
def kf_fieldAddr (P:Program) (md:Bool) {H:HeapI} {R:Type} (C:Oracle H) (t:List Value) (s:St H) (k:Value→St H→Option R) (e:TypeId) (x:Operand) (f:Nat):Option R :=
 (fieldAddrD P e (evalO t x) f).bind fun v=>k v s
def kf_field (P:Program) (md:Bool) {H:HeapI} {R:Type} (C:Oracle H) (t:List Value) (s:St H) (k:Value→St H→Option R) (e:TypeId) (x:Operand) (f:Nat):Option R :=
 (fieldD P e (evalO t x) f).bind fun v=>k v s
def kf_indexAddr (P:Program) (md:Bool) {H:HeapI} {R:Type} (C:Oracle H) (t:List Value) (s:St H) (k:Value→St H→Option R) (e:TypeId) (x:Operand) (i:Operand):Option R :=
 (indexAddrD P e (evalO t x) (evalO t i)).bind fun v=>k v s
def kf_index (P:Program) (md:Bool) {H:HeapI} {R:Type} (C:Oracle H) (t:List Value) (s:St H) (k:Value→St H→Option R) (e:TypeId) (x:Operand) (i:Operand):Option R :=
 (indexD P e (evalO t x) (evalO t i)).bind fun v=>k v s
def kf_extract (P:Program) (md:Bool) {H:HeapI} {R:Type} (C:Oracle H) (t:List Value) (s:St H) (k:Value→St H→Option R) (x:Operand) (i:Nat):Option R :=
 (extractD (evalO t x) i).bind fun v=>k v s
def kf_makeMap (P:Program) (md:Bool) {H:HeapI} {R:Type} (C:Oracle H) (t:List Value) (s:St H) (k:Value→St H→Option R) (e:TypeId) (r:Option Operand):Option R :=
 (bif okHint (r.map (evalO t)) then makeMapD P s e else none).bind fun p=>k p.1 p.2
def kf_lookup (P:Program) (md:Bool) {H:HeapI} {R:Type} (C:Oracle H) (t:List Value) (s:St H) (k:Value→St H→Option R) (e:TypeId) (x:Operand) (i:Operand) (ok:Bool):Option R :=
 (lookupD P s e (evalO t x) (evalO t i) ok).bind fun v=>k v s
def kf_mapUpdate (P:Program) (md:Bool) {H:HeapI} {R:Type} (C:Oracle H) (t:List Value) (s:St H) (k:Value→St H→Option R) (e:TypeId) (m:Operand) (i:Operand) (x:Operand):Option R :=
 (mapUpdateD P s e (evalO t m) (evalO t i) (evalO t x)).bind fun s'=>k undefV s'
def kf_insert (P:Program) (md:Bool) {H:HeapI} {R:Type} (C:Oracle H) (t:List Value) (s:St H) (k:Value→St H→Option R) (e:TypeId) (m:Operand) (i:Operand) (x:Operand):Option R :=
 (mapUpdateD P s e (evalO t m) (evalO t i) (evalO t x)).bind fun s'=>k undefV s'
def kf_mapEntry (P:Program) (md:Bool) {H:HeapI} {R:Type} (C:Oracle H) (t:List Value) (s:St H) (k:Value→St H→Option R) (e:TypeId) (m:Operand) (i:Operand):Option R :=
 (mapEntryD P s e (evalO t m) (evalO t i)).bind fun p=>k p.1 p.2
def kf_entryStore (P:Program) (md:Bool) {H:HeapI} {R:Type} (C:Oracle H) (t:List Value) (s:St H) (k:Value→St H→Option R) (e:TypeId) (m:Operand) (i:Operand) (x:Operand):Option R :=
 (entryStoreD s e (evalO t m) (evalO t i) (evalO t x)).bind fun s'=>k undefV s'
def kf_range (P:Program) (md:Bool) {H:HeapI} {R:Type} (C:Oracle H) (t:List Value) (s:St H) (k:Value→St H→Option R) (e:TypeId) (x:Operand):Option R :=
 (rangeD P s e (evalO t x)).bind fun p=>k p.1 p.2
def kf_next (P:Program) (md:Bool) {H:HeapI} {R:Type} (C:Oracle H) (t:List Value) (s:St H) (k:Value→St H→Option R) (it:Operand) (isS:Bool):Option R :=
 (bif isS then none else nextD s (evalO t it)).bind fun p=>k p.1 p.2
def kf_entry (P:Program) (md:Bool) {H:HeapI} {R:Type} (C:Oracle H) (t:List Value) (s:St H) (k:Value→St H→Option R) (it:Operand):Option R :=
 (entryD s (evalO t it)).bind fun v=>k v s
def kf_call (P:Program) (md:Bool) {H:HeapI} {R:Type} (C:Oracle H) (t:List Value) (s:St H) (k:Value→St H→Option R) (c:Call):Option R :=
 match c.callee,c.args.toList,c.argTypes.toList with
  | .builtin .len,[x],[e]=>(lenOfD P s e (evalO t x)).bind fun v=>k v s
  | .builtin .cap,[x],[e]=>(capOfD P e (evalO t x)).bind fun v=>k v s
  | .builtin .append,[x,y],[e,f]=>(bif isInt P f then appendZ P s e (evalO t x) (evalO t y) else appendD P md s e f (evalO t x) (evalO t y)).bind fun p=>k p.1 p.2
  | .builtin .clear,[x],[e]=>(clearD P s e (evalO t x)).bind fun s'=>k (.tuple #[]) s'
  | .builtin .delete,[x,y],e::_=>(deleteD P s e (evalO t x) (evalO t y)).bind fun s'=>k (.tuple #[]) s'
  | .builtin .copy,[x,y],e::_=>(copyD P s e (evalO t x) (evalO t y)).bind fun p=>k p.1 p.2
  | .builtin .min,x::l,_=>(bif flat (evalO t x)&&(l.map (evalO t)).all flat then pureD P ((l.map (evalO t)).foldlM Builtin.min2 (evalO t x)) else none).bind fun v=>k v s
  | .builtin .max,x::l,_=>(bif flat (evalO t x)&&(l.map (evalO t)).all flat then pureD P ((l.map (evalO t)).foldlM Builtin.max2 (evalO t x)) else none).bind fun v=>k v s
  | .value f,args,_=>(tgtD (evalO t f) (args.map (evalO t))).bind fun g=>(C g.1 g.2 s).bind fun p=>k p.1 p.2
  | _,_,_=>none
def opF (P:Program) (md:Bool) {H:HeapI} {R:Type} (C:Oracle H) (o:Oper) (t:List Value) (s:St H) (k:Value→St H→Option R):Option R :=
 match o.op with
 | .move x | .assign x=>k (evalO t x) s
 | .pick c a b=>kf_pick P md C t s k c a b
 | .alloc e=>kf_alloc P md C t s k e
 | .box x0 v=>kf_box P md C t s k x0 v
 | .build e parts=>kf_build P md C t s k e parts
 | .buildSlice e len parts=>kf_buildSlice P md C t s k e len parts
 | .load e a=>kf_load P md C t s k e a
 | .store e a v=>kf_store P md C t s k e a v
 | .nilCheck x=>kf_nilCheck P md C t s k x
 | .binOp op e x y x4=>kf_binOp P md C t s k op e x y x4
 | .unOp op x1 x=>kf_unOp P md C t s k op x1 x
 | .convert a b x=>kf_convert P md C t s k a b x
 | .makeFunc (.func f) first cap=>k (.func (.func f) (first.map (evalO t)) (cap.map (evalO t))) s
 | .makeSlice e l c=>kf_makeSlice P md C t s k e l c
 | .slice e x l h m=>kf_slice P md C t s k e x l h m
 | .fieldAddr e x f=>kf_fieldAddr P md C t s k e x f
 | .field e x f=>kf_field P md C t s k e x f
 | .indexAddr e x i=>kf_indexAddr P md C t s k e x i
 | .index e x i=>kf_index P md C t s k e x i
 | .extract x i=>kf_extract P md C t s k x i
 | .makeMap e r=>kf_makeMap P md C t s k e r
 | .lookup e x i ok=>kf_lookup P md C t s k e x i ok
 | .mapUpdate e m i x=>kf_mapUpdate P md C t s k e m i x
 | .insert e m i x=>kf_insert P md C t s k e m i x
 | .mapEntry e m i=>kf_mapEntry P md C t s k e m i
 | .entryStore e m i x=>kf_entryStore P md C t s k e m i x
 | .range e x=>kf_range P md C t s k e x
 | .next it isS=>kf_next P md C t s k it isS
 | .entry it=>kf_entry P md C t s k it
 | .call c=>kf_call P md C t s k c
 | _=>none
theorem opF_eq (P:Program) (md:Bool) {H:HeapI} {R:Type} (C:Oracle H) (o:Oper) (t:List Value) (s:St H) (k:Value→St H→Option R):opF P md C o t s k=opK P md C o t s k:=by
 obtain ⟨dst,op,ty,pos,after,guard⟩:=o
 cases op <;> first | rfl | (rename_i f _ _; cases f <;> rfl)
noncomputable def forceL {R:Type} (l:List Value):(List Value→R)→R:=List.rec (motive:=fun _=>(List Value→R)→R) (fun k=>k []) (fun x _ ih k=>ih fun l=>k (x::l)) l
theorem forceL_eq {R:Type} (l:List Value) (k:List Value→R):forceL l k=k l:=by
 induction l generalizing k with
 | nil=>rfl
 | cons v l ih=>exact ih _
def setD (t:List Value) (d:Option Tmp) (v:Value):List Value :=
 match d with
 | some d=>t.set d v
 | none=>t
def opJ {X:Type} (C:OracleJ H) (o:Oper) (t:List Value) (s:St H) (k:Value→St H→Option (List X)):Option (List X) :=
 match o.op with
 | .next it isS=>(bif isS then none else nextsD s (evalO t it)).bind fun L=>manyK L k
 | .call c=>match c.callee with
  | .value f=>(tgtD (evalO t f) (c.args.toList.map (evalO t))).bind fun g=>(C g.1 g.2 s).bind fun L=>manyK L k
  | _=>opF P md (oneO C) o t s k
 | _=>opF P md (oneO C) o t s k
noncomputable def opsK {X:Type} (C:OracleJ H) (all:Array Oper):List Oper→List Value→St H→(List Value→St H→Option (List X))→Option (List X)
 | [],t,s,k=>k t s
 | o::rest,t,s,k=>forceL t fun t =>
  match o.guard with
  | none=>opJ P md C o t s fun v s'=>opsK C all rest (setD t o.dst v) s' k
  | some (j,b)=>match (all[j]?).bind (·.dst) with
   | none=>none
   | some d=>match t.getD d dc with
    | .bool x=>cond x
     (cond b (opJ P md C o (t.set d (.bool true)) s fun v s'=>opsK C all rest (setD (t.set d (.bool true)) o.dst v) s' k) (opsK C all rest (setD (t.set d (.bool true)) o.dst undefV) s k))
     (cond b (opsK C all rest (setD (t.set d (.bool false)) o.dst undefV) s k) (opJ P md C o (t.set d (.bool false)) s fun v s'=>opsK C all rest (setD (t.set d (.bool false)) o.dst v) s' k))
    | .tuple vs=>bif vs.toList.isEmpty then opsK C all rest (setD (t.set d undefV) o.dst undefV) s k else none
    | _=>none
end exec
end Go.FS
