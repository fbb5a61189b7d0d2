import Derived.Test.YtmhmbmogodofeaaFu
namespace Go.FS
section ops
variable (P:Program) {G:Nat→Option (Array Value)}
noncomputable def allocQ (s:SQ G) (t:TypeId):Option (Value×SQ G) :=
 match zeroD P t with
 | some l=>forceQ l fun l=>newK s (.row l) fun n s'=>some (.pointer (some ⟨n,0,none⟩),s')
 | none=>none
theorem allocQ_eq:(allocQ P:SQ G→TypeId→Option (Value×SQ G))=allocD P:=by
 funext s t
 unfold allocQ allocD
 cases zeroD P t with
 | none=>rfl
 | some l=>simp only [forceQ_eq,newK_eq,Option.map_some]
noncomputable def boxQ (s:SQ G) (v:Value):Option (Value×SQ G) :=
 forceQ v.cells.toList fun l=>bif allQ oneC l then newK s (.row l) fun n s'=>some (.pointer (some ⟨n,0,none⟩),s') else none
theorem boxQ_eq:(boxQ:SQ G→Value→Option (Value×SQ G))=boxD:=by
 funext s v
 simp only [boxQ,boxD,forceQ_eq,allQ_eq,newK_eq]
noncomputable def bopQ (op:BinOp) (t:TypeId) (x y:Value):Option Value :=
 match x with
 | .int j a=>match y with
  | .int k b=>intQ op j k a b
  | y=>bopD P op t (.int j a) y
 | x=>bopD P op t x y
theorem bopQ_eq:bopQ P=bopD P:=by
 funext op t x y
 cases x with
 | int j a =>
  cases y with
  | int k b=>exact (intQ_eq op j k a b).trans (bop_int op t j k a b).symm
  | _=>rfl
 | _=>rfl
noncomputable def appendQ (md:Bool) (s:SQ G) (t xt:TypeId) (x y:Value):Option (Value×SQ G) :=
 match md with
 | true=>appD P true s t xt x y
 | false=>match x with
  | .iface m (.tuple arr)=>match y with
   | .iface m2 (.tuple brr)=>match P.underlying t with
    | some (.slice e)=>match P.underlying xt with
     | some (.slice _)=>match P.info? e with
      | some i=>match zeroD P e with
       | some zs=>forceN (lenQ brr.toList) fun n=>forceN (lenQ arr.toList) fun len=>bif isFz brr&&isFz arr&&(decide ((len+n)*i.bytes≤140737488355328)&&decide (len+n≤140737488355328)&&Nat.beq zs.length i.size&&Nat.blt 0 i.size) then
        bif fzOk i.size arr&&fzOk i.size brr then
         match m with
         | 0=>bif Nat.beq n 0 then some (.iface 0 (.tuple arr),s) else none
         | 1=>forceQ (appQ arr.toList brr.toList) fun l=>newK s (.tok (len+n) i.size) fun id s'=>forceN (Nat.add id 3) fun q=>some (.iface q (.tuple ⟨l⟩),s')
         | 2=>forceQ (appQ arr.toList brr.toList) fun l=>newK s (.tok (len+n) i.size) fun id s'=>forceN (Nat.add id 3) fun q=>some (.iface q (.tuple ⟨l⟩),s')
         | id+3=>match hgetQ s id with
          | some (.tok a z)=>bif Nat.beq a len&&Nat.beq z i.size then forceQ (appQ arr.toList brr.toList) fun l=>forceN (Nat.add len n) fun k=>putK s id (.tok k i.size) fun s'=>some (.iface m (.tuple ⟨l⟩),s') else none
          | _=>none
        else appD P false s t xt (.iface m (.tuple arr)) (.iface m2 (.tuple brr))
        else none
       | none=>none
      | none=>none
     | _=>appD P false s t xt (.iface m (.tuple arr)) (.iface m2 (.tuple brr))
    | _=>appD P false s t xt (.iface m (.tuple arr)) (.iface m2 (.tuple brr))
   | y=>appD P false s t xt (.iface m (.tuple arr)) y
  | x=>appD P false s t xt x y
theorem lenQ_arr (arr:Array Value):lenQ arr.toList=arr.size:=by rw [lenQ_eq]; exact Array.length_toList
theorem take_all (arr:Array Value):arr.toList.take arr.size=arr.toList:=List.take_of_length_le (by simp)
theorem appendQ_eq:(appendQ P:Bool→SQ G→TypeId→TypeId→Value→Value→Option (Value×SQ G))=appD P:=by
 funext md s t xt x y
 cases md with
 | true=>rfl
 | false =>
  cases x with
  | iface m v =>
   cases v with
   | tuple arr =>
    cases y with
    | iface m2 v2 =>
     cases v2 with
     | tuple brr =>
      show (match P.underlying t with | some (.slice e)=>_ | _=>_)=_
      cases hu:P.underlying t with
      | none=>rfl
      | some d =>
       cases d with
       | slice e =>
        simp only
        cases hx:P.underlying xt with
        | none=>rfl
        | some dx =>
         cases dx with
         | slice e2 =>
          have hni:isInt P xt=false:=by unfold isInt; rw [hx]
          unfold appD appendD
          simp only [hu,hx,hni,cond_false,Option.bind_some]
          cases P.info? e with
          | none=>rfl
          | some i =>
           simp only [Option.bind_some,lenD,forceN_eq,lenQ_arr]
           cases hzd:zeroD P e with
           | none=>cases isFz brr <;> cases isFz arr <;> rfl
           | some zs =>
            simp only [Option.bind_some]
            cases hb:isFz brr with
            | false=>simp only [Bool.false_and,cond_false,Option.bind_none]
            | true =>
             cases ha:isFz arr with
             | false=>simp only [Bool.and_false,Bool.false_and,cond_false,cond_true,Option.bind_some,Option.bind_none]
             | true =>
              simp only [Bool.true_and,cond_true,Option.bind_some]
              cases (decide ((arr.size+brr.size)*i.bytes≤140737488355328)&&decide (arr.size+brr.size≤140737488355328)&&Nat.beq zs.length i.size&&Nat.blt 0 i.size) with
              | false=>rfl
              | true =>
               simp only [cond_true]
               cases hfa:fzOk i.size arr with
               | false=>rfl
               | true =>
                cases hfb:fzOk i.size brr with
                | false=>simp only [Bool.and_false,cond_false]
                | true =>
                 simp only [Bool.and_self,cond_true]
                 have he:elemsD s i.size brr.size (.iface m2 (.tuple brr))=some brr.toList:=by
                  simp only [elemsD,Nat.ble_eq_true_of_le (Nat.le_refl brr.size),hfb,Bool.and_self,cond_true,take_all]
                 match m with
                 | 0=>rfl
                 | 1=>simp only [he,Option.map_some,forceQ_eq,appQ_eq,newK_eq,Bool.false_and,cond_false,appNew]; rfl
                 | 2=>simp only [he,Option.map_some,forceQ_eq,appQ_eq,newK_eq,Bool.false_and,cond_false,appNew]; rfl
                 | id+3 =>
                  simp only [he,Option.bind_some,hgetQ_eq,tokD,forceQ_eq,appQ_eq,putK_eq]
                  cases (TrG G).get s.h id with
                  | none=>rfl
                  | some o=>cases o <;> rfl
         | _=>rfl
       | _=>rfl
     | _=>rfl
    | _=>rfl
   | _=>rfl
  | _=>rfl
noncomputable def lenOQ (s:SQ G) (t:TypeId) (x:Value):Option Value :=
 match x with
 | .iface m (.tuple arr)=>match P.underlying t with
  | some (.slice _)=>bif isFz arr then forceN (lenQ arr.toList) fun n=>some (.int .i64 (Int.ofNat n)) else none
  | _=>lenOfD P s t (.iface m (.tuple arr))
 | x=>lenOfD P s t x
theorem lenOQ_eq:(lenOQ P:SQ G→TypeId→Value→Option Value)=lenOfD P:=by
 funext s t x
 cases x with
 | iface m v =>
  cases v with
  | tuple arr =>
   show (match P.underlying t with | some (.slice _)=>_ | _=>_)=_
   cases hu:P.underlying t with
   | none=>rfl
   | some d=>cases d with
    | slice e=>simp only [forceN_eq,lenQ_arr,lenOfD,hu]; rfl
    | _=>rfl
  | _=>rfl
 | _=>rfl
noncomputable def convQ (md:Bool) (s:SQ G) (a b:TypeId) (x:Value):Option (Value×SQ G) :=
 match x with
 | .int j n=>match P.underlying a with
  | some _=>match P.underlying b with
   | some (.int k)=>forceI (wrapQ k n) fun n=>some (.int k n,s)
   | _=>convertD P md s a b (.int j n)
  | none=>none
 | x=>convertD P md s a b x
theorem convQ_eq:(convQ P:Bool→SQ G→TypeId→TypeId→Value→Option (Value×SQ G))=convertD P:=by
 funext md s a b x
 cases x with
 | int j n =>
  show (match P.underlying a with | some _=>_ | none=>none)=_
  cases ha:P.underlying a with
  | none=>unfold convertD; rw [ha]
  | some da =>
   simp only
   cases hb:P.underlying b with
   | none=>rfl
   | some db=>cases db with
    | int k=>simp only [forceI_eq,wrapQ_eq,convertD,ha,hb]
    | _=>rfl
 | _=>rfl
noncomputable def qOps:Ops (TrG G) where
 boolO:=boolD
 alloc:=allocQ P
 box:=boxQ
 build:=buildD P
 buildSlice:=buildSliceD P
 load:=loadQ P
 store:=storeQ P
 nilCheck:=nilCheckD
 bop:=bopQ P
 uop:=uopD P
 conv:=convQ P
 makeSlice:=makeSliceD P
 slc:=slcD P
 fieldAddr:=fieldAddrD P
 field:=fieldD P
 indexAddr:=indexAddrQ P
 index:=indexD P
 extract:=extractD
 makeMap:=makeMapO P
 lookup:=lookupD P
 mapUpdate:=mapUpdateD P
 mapEntry:=mapEntryD P
 entryStore:=entryStoreD
 range:=rangeD P
 nexts:=nextsD
 next:=nextD
 entry:=entryD
 len:=lenOQ P
 cap:=capOfD P
 append:=appendQ P
 clear:=clearD P
 delete:=deleteD P
 copy:=copyD P
 minO:=minD P
 maxO:=maxD P
 tgt:=tgtD
theorem qOps_eq:(qOps P:Ops (TrG G))=dOps P:=by
 unfold qOps dOps
 rw [allocQ_eq,boxQ_eq,loadQ_eq,storeQ_eq,bopQ_eq,convQ_eq,indexAddrQ_eq,lenOQ_eq,appendQ_eq]
end ops
section table
variable {P:Program} {H:HeapI} {A:Ann H}
noncomputable def stepD (P:Program) (A:Ann H) (n:Nat) (C:OracleJ H) (f:FuncId) (args:List Value) (s:St H):Option (List (Value×St H)) :=
 match A.i f with
 | some i=>(i args s).map fun p=>[p]
 | none=>match P.funcs[f]? with
  | none=>none
  | some fn=>match A.cut f with
   | none=>bodyD P (A.row f) C n f fn args s
   | some fl=>(bodyD P (A.row f) C n f fn args s).bind fun L=>cutJ fl s L
abbrev Run (H:HeapI):=OracleJ H→List Value→St H→Option (List (Value×St H))
abbrev Tb (H:HeapI):=FuncId→Option (Run H)
def RunOk (P:Program) (A:Ann H) (f:FuncId) (F:Run H):Prop:=∀ C args s,F C args s=stepD P A A.N C f args s
def TbOk (P:Program) (A:Ann H) (t:Tb H):Prop:=∀ f F,t f=some F→RunOk P A f F
def tbNode (m:Nat) (a b:Tb H):Tb H:=fun f=>bif Nat.blt f m then a f else b f
def tbLeaf (k:Nat) (F:Run H):Tb H:=fun f=>bif Nat.beq f k then some F else none
theorem node_ok {m:Nat} {a b:Tb H} (ha:TbOk P A a) (hb:TbOk P A b):TbOk P A (tbNode m a b):=by
 intro f F h
 unfold tbNode at h
 cases e:Nat.blt f m with
 | true=>rw [e] at h; exact ha f F h
 | false=>rw [e] at h; exact hb f F h
theorem leaf_ok {k:Nat} {F:Run H} (h:RunOk P A k F):TbOk P A (tbLeaf k F):=by
 intro f F' h'
 unfold tbLeaf at h'
 cases e:Nat.beq f k with
 | true =>
  rw [e] at h'
  obtain rfl:=Nat.eq_of_beq_eq_true e
  injection h' with h'
  subst h'; exact h
 | false=>rw [e] at h'; cases h'
theorem good_of {k:Nat} {F:Run H} {fn:Func} (hI:A.i k=none) (hc:A.cut k=none) (hf:P.funcs[k]?=some fn) (h:∀ C args s,F C args s=bodyD P (A.row k) C A.N k fn args s):RunOk P A k F:=by
 intro C args s
 rw [h]
 unfold stepD
 rw [hI,hf]
 simp only
 rw [hc]
noncomputable def callG (P:Program) (A:Ann H) (t:Tb H) (n:Nat):OracleJ H :=
 Nat.rec (motive:=fun _=>OracleJ H) (fun _ _ _=>none) (fun _ ih g args s=>match g with
  | .fn f=>match t f with
   | some F=>F ih args s
   | none=>stepD P A A.N ih f args s
  | .yld l=>roundD P A.row ih A.N l args s) n
theorem callG_eq {t:Tb H} (h:TbOk P A t):∀ n,callG P A t n=callD P A n
 | 0=>by funext g args s; rfl
 | n+1=>by
  have ih:=callG_eq h n
  funext g args s
  cases g with
  | fn f =>
   show (match t f with | some F=>F (callG P A t n) args s | none=>stepD P A A.N (callG P A t n) f args s)=_
   rw [ih]
   have e:callD P A (n+1) (.fn f) args s=stepD P A A.N (callD P A n) f args s:=rfl
   rw [e]
   cases ht:t f with
   | none=>rfl
   | some F=>exact h f F ht _ _ _
  | yld l =>
   show roundD P A.row (callG P A t n) A.N l args s=_
   rw [ih]; rfl
end table
end Go.FS
