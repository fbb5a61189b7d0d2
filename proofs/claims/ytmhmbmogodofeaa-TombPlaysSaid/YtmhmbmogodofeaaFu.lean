import Derived.Test.YtmhmbmogodofeaaFt
namespace Go.FS
variable {P:Program}
noncomputable def nthQ {α:Type} (l:List α):Nat→Option α:=List.rec (motive:=fun _=>Nat→Option α) (fun _=>none) (fun x _ ih n=>Nat.rec (motive:=fun _=>Option α) (some x) (fun m _=>ih m) n) l
theorem nthQ_eq {α:Type}:∀ (l:List α) (n:Nat),nthQ l n=l[n]?
 | [],n=>by simp [nthQ]
 | x::l,0=>rfl
 | x::l,n+1=>by
  have:=nthQ_eq l n
  rw [List.getElem?_cons_succ,← this]; rfl
noncomputable def takeK {α R:Type} (n:Nat):List α→(List α→Option R)→Option R:=Nat.rec (motive:=fun _=>List α→(List α→Option R)→Option R) (fun _ k=>k []) (fun _ ih l k=>List.rec (motive:=fun _=>Option R) none (fun x l _=>ih l fun r=>k (x::r)) l) n
theorem takeK_eq {α R:Type}:∀ (n:Nat) (l:List α) (k:List α→Option R),takeK n l k=if (l.take n).length=n then k (l.take n) else none
 | 0,l,k=>by
  show k []=_
  simp
 | n+1,[],k=>by simp [takeK]
 | n+1,x::l,k=>by
  have:=takeK_eq n l (fun r=>k (x::r))
  show takeK n l (fun r=>k (x::r))=_
  rw [this]; simp
noncomputable def dropQ {α:Type} (n:Nat):List α→List α:=Nat.rec (motive:=fun _=>List α→List α) (fun l=>l) (fun _ ih l=>List.rec (motive:=fun _=>List α) [] (fun _ l _=>ih l) l) n
theorem dropQ_eq {α:Type}:∀ (n:Nat) (l:List α),dropQ n l=l.drop n
 | 0,l=>rfl
 | n+1,[]=>by simp [dropQ]
 | n+1,x::l=>by
  have:=dropQ_eq n l
  show dropQ n l=_
  rw [this]; simp
noncomputable def appQ {α:Type} (l m:List α):List α:=List.rec (motive:=fun _=>List α) m (fun x _ ih=>x::ih) l
theorem appQ_eq {α:Type} (l m:List α):appQ l m=l++m:=by
 induction l with
 | nil=>rfl
 | cons x l ih=>show x::appQ l m=_; rw [ih]; rfl
noncomputable def forceQ {α R:Type} (l:List α):(List α→R)→R:=List.rec (motive:=fun _=>(List α→R)→R) (fun k=>k []) (fun x _ ih k=>ih fun l=>k (x::l)) l
theorem forceQ_eq {α R:Type} (l:List α) (k:List α→R):forceQ l k=k l:=by
 induction l generalizing k with
 | nil=>rfl
 | cons v l ih=>exact ih _
noncomputable def lenQ {α:Type} (l:List α):Nat:=List.rec (motive:=fun _=>Nat) 0 (fun _ _ ih=>Nat.succ ih) l
theorem lenQ_eq {α:Type} (l:List α):lenQ l=l.length:=by
 induction l with
 | nil=>rfl
 | cons x l ih=>show Nat.succ (lenQ l)=_; rw [ih]; rfl
noncomputable def allQ {α:Type} (p:α→Bool) (l:List α):Bool:=List.rec (motive:=fun _=>Bool) true (fun x _ ih=>cond (p x) ih false) l
theorem allQ_eq {α:Type} (p:α→Bool) (l:List α):allQ p l=l.all p:=by
 induction l with
 | nil=>rfl
 | cons x l ih=>show cond (p x) (allQ p l) false=_; rw [ih]; cases h:p x <;> simp [h]
noncomputable def overK {α R:Type} (o:Nat) (l:List α):List α→(List α→R)→R :=
 Nat.rec (motive:=fun _=>List α→(List α→R)→R)
  (List.rec (motive:=fun _=>List α→(List α→R)→R) (fun cs k=>forceQ cs k) (fun x _ ih cs k=>ih (cs.drop 1) fun r=>k (x::r)) l)
  (fun _ ih cs k=>List.rec (motive:=fun _=>R) (forceQ l k) (fun c cs _=>ih cs fun r=>k (c::r)) cs) o
theorem over0 {α R:Type}:∀ (l:List α) (cs:List α) (k:List α→R),overK 0 l cs k=k (l++cs.drop l.length)
 | [],cs,k=>by
  show forceQ cs k=_
  rw [forceQ_eq]; rfl
 | x::l,cs,k=>by
  have:=over0 l (cs.drop 1) fun r=>k (x::r)
  show overK 0 l (cs.drop 1) (fun r=>k (x::r))=_
  rw [this]; simp [Nat.add_comm]
theorem overK_eq {α R:Type}:∀ (o:Nat) (l:List α) (cs:List α) (k:List α→R),overK o l cs k=k (cs.take o++(l++cs.drop (o+l.length)))
 | 0,l,cs,k=>by rw [over0]; simp
 | o+1,l,[],k=>by simp [overK,forceQ_eq]
 | o+1,l,c::cs,k=>by
  have:=overK_eq o l cs fun r=>k (c::r)
  show overK o l cs (fun r=>k (c::r))=_
  rw [this]
  have:o+1+l.length=(o+l.length)+1:=by omega
  rw [this]; simp
noncomputable def Tr.getQ {α:Type} (t:Tr α):Nat→Option α :=
 Tr.rec (motive:=fun _=>Nat→Option α) (fun _=>none) (fun _ o _ ihl ihr n =>
  match Nat.beq n 0 with
  | true=>o
  | false=>match Nat.beq (Nat.mod n 2) 1 with
   | true=>ihl (Nat.div n 2)
   | false=>ihr (Nat.sub (Nat.div n 2) 1)) t
theorem Tr.getQ_eq {α:Type} (t:Tr α):∀ n,t.getQ n=t.get n:=by
 induction t with
 | leaf=>intro n; rw [Tr.get_leaf]; rfl
 | node l o r ihl ihr =>
  intro n
  unfold Tr.get
  show (match Nat.beq n 0 with | true=>o | false=>match Nat.beq (n % 2) 1 with | true=>l.getQ (n / 2) | false=>r.getQ (n / 2-1))=_
  rw [ihl,ihr]
  cases Nat.beq n 0 with
  | true=>rfl
  | false=>cases Nat.beq (n % 2) 1 <;> rfl
noncomputable def Tr.newK {α R:Type} (v:Option α) (f:Nat):Nat→(Tr α→R)→R :=
 Nat.rec (motive:=fun _=>Nat→(Tr α→R)→R) (fun _ k=>k .leaf) (fun _ ih n k =>
  match Nat.beq n 0 with
  | true=>k (.node .leaf v .leaf)
  | false=>match Nat.beq (Nat.mod n 2) 1 with
   | true=>ih (Nat.div n 2) fun l=>k (.node l none .leaf)
   | false=>ih (Nat.sub (Nat.div n 2) 1) fun r=>k (.node .leaf none r)) f
noncomputable def Tr.putK {α R:Type} (v:Option α) (t:Tr α):Nat→(Tr α→R)→R :=
 Tr.rec (motive:=fun _=>Nat→(Tr α→R)→R) (fun n k=>Tr.newK v (Nat.succ n) n k) (fun l o r ihl ihr n k =>
  match Nat.beq n 0 with
  | true=>k (.node l v r)
  | false=>match Nat.beq (Nat.mod n 2) 1 with
   | true=>ihl (Nat.div n 2) fun l=>k (.node l o r)
   | false=>ihr (Nat.sub (Nat.div n 2) 1) fun r=>k (.node l o r)) t
theorem Tr.newK_eq {α R:Type} (v:Option α):∀ (f n:Nat) (k:Tr α→R),n<f→Tr.newK v f n k=k (Tr.putF f .leaf n v)
 | 0,n,k,h=>by omega
 | f+1,n,k,h=>by
  show (match Nat.beq n 0 with
  | true=>k (.node .leaf v .leaf)
  | false=>match Nat.beq (n % 2) 1 with
   | true=>Tr.newK v f (n / 2) fun l=>k (.node l none .leaf)
   | false=>Tr.newK v f (n / 2-1) fun r=>k (.node .leaf none r))=_
  unfold Tr.putF
  cases h0:Nat.beq n 0 with
  | true=>rfl
  | false =>
   have hn:n≠0:=fun e=>by rw [e] at h0; cases h0
   simp only
   rw [Tr.newK_eq v f (n / 2) _ (by omega),Tr.newK_eq v f (n / 2-1) _ (by omega)]
   cases Nat.beq (n % 2) 1 <;> rfl
theorem Tr.putF_leaf {α:Type} (v:Option α):∀ (f g n:Nat),n<f→n<g→Tr.putF f (.leaf:Tr α) n v=Tr.putF g .leaf n v
 | 0,g,n,h,_=>by omega
 | f+1,0,n,_,h=>by omega
 | f+1,g+1,n,h1,h2=>by
  unfold Tr.putF
  cases h0:Nat.beq n 0 with
  | true=>rfl
  | false =>
   have hn:n≠0:=fun e=>by rw [e] at h0; cases h0
   simp only [Tr.left,Tr.right]
   rw [Tr.putF_leaf v f g (n / 2) (by omega) (by omega),Tr.putF_leaf v f g (n / 2-1) (by omega) (by omega)]
theorem Tr.putK_eq {α R:Type} (v:Option α) (t:Tr α):∀ (f n:Nat) (k:Tr α→R),n<f→t.putK v n k=k (Tr.putF f t n v):=by
 induction t with
 | leaf =>
  intro f n k h
  show Tr.newK v (Nat.succ n) n k=_
  rw [Tr.newK_eq v _ _ _ (Nat.lt_succ_self n),Tr.putF_leaf v (Nat.succ n) f n (Nat.lt_succ_self n) h]
 | node l o r ihl ihr =>
  intro f n k h
  match f,h with
  | f+1,h =>
   show (match Nat.beq n 0 with
   | true=>k (.node l v r)
   | false=>match Nat.beq (n % 2) 1 with
    | true=>l.putK v (n / 2) fun l=>k (.node l o r)
    | false=>r.putK v (n / 2-1) fun r=>k (.node l o r))=_
   unfold Tr.putF
   cases h0:Nat.beq n 0 with
   | true=>rfl
   | false =>
    have hn:n≠0:=fun e=>by rw [e] at h0; cases h0
    simp only [Tr.left,Tr.right,Tr.mid]
    rw [ihl f (n / 2) _ (by omega),ihr f (n / 2-1) _ (by omega)]
    cases Nat.beq (n % 2) 1 <;> rfl
section ops
variable (P) {G:Nat→Option (Array Value)}
abbrev SQ (G:Nat→Option (Array Value)):=St (TrG G)
noncomputable def newK {R:Type} (s:SQ G) (o:DObj) (k:Nat→SQ G→R):R:=forceN s.n fun n=>Tr.putK (some o) s.h n fun h=>k n { h:=h,n:=Nat.succ n }
theorem newK_eq {R:Type} (s:SQ G) (o:DObj) (k:Nat→SQ G→R):newK s o k=k s.n (newD s o):=by
 unfold newK
 rw [forceN_eq,Tr.putK_eq (some o) s.h (s.n+1) s.n _ (Nat.lt_succ_self _)]; rfl
noncomputable def putK {R:Type} (s:SQ G) (id:Nat) (o:DObj) (k:SQ G→R):R:=Tr.putK (some o) s.h id fun h=>k { h:=h,n:=s.n }
theorem putK_eq {R:Type} (s:SQ G) (id:Nat) (o:DObj) (k:SQ G→R):putK s id o k=k (putD s id o):=by
 unfold putK
 rw [Tr.putK_eq (some o) s.h (id+1) id _ (Nat.lt_succ_self _)]; rfl
noncomputable def partQ (t:TypeId) (cs:List Value) (o:Nat):Option Value :=
 match aggD P t with
 | some true=>match sizeD P t with
  | some n=>takeK n (dropQ o cs) fun l=>some (.agg ⟨l⟩)
  | none=>none
 | some false=>nthQ cs o
 | none=>none
theorem partQ_eq (t:TypeId) (cs:List Value) (o:Nat):partQ P t cs o=partD P t cs o:=by
 unfold partQ partD
 cases aggD P t with
 | none=>rfl
 | some g=>cases g with
  | true =>
   simp only [Option.bind_some,cond_true]
   cases sizeD P t with
   | none=>rfl
   | some n =>
    simp only [Option.bind_some,takeK_eq,dropQ_eq,takeD]
    by_cases h:((cs.drop o).take n).length=n
    · rw [if_pos h,h,beq_yes]; rfl
    · rw [if_neg h,beq_no h]; rfl
  | false=>simp only [Option.bind_some,cond_false,nthQ_eq]
noncomputable def hgetQ (s:SQ G) (id:Nat):Option DObj:=Tr.getQ (α:=DObj) s.h id
theorem hgetQ_eq (s:SQ G) (id:Nat):hgetQ s id=(TrG G).get s.h id:=Tr.getQ_eq _ _
noncomputable def rowQ (s:SQ G) (id:Nat):Option (List Value):=match hgetQ s id with
 | some (.row cs)=>some cs
 | _=>none
theorem rowQ_eq (s:SQ G) (id:Nat):rowQ s id=rowD s id:=by
 unfold rowQ rowD
 rw [hgetQ_eq]
 cases (TrG G).get s.h id with
 | none=>rfl
 | some o=>cases o <;> rfl
noncomputable def loadQ (s:SQ G) (t:TypeId) (a:Value):Option Value :=
 match a with
 | .pointer (some ⟨id,o,none⟩)=>(rowQ s id).bind fun cs=>partQ P t cs o
 | .iface o (.tuple arr)=>match arr.toList with
  | [.tuple cs]=>partQ P t cs.toList o
  | [.tuple _,.int _ g]=>(G g.toNat).bind fun cs=>partQ P t cs.toList o
  | _=>none
 | _=>none
theorem loadQ_eq:(loadQ P:SQ G→TypeId→Value→Option Value)=loadD P:=by
 funext s t a
 cases a with
 | pointer a=>rcases a with _ | ⟨id,o,_ | sp⟩ <;> first | rfl | (simp only [loadQ,loadD,rowQ_eq,partQ_eq])
 | iface o v =>
  cases v with
  | tuple arr =>
   rcases arr with ⟨l⟩
   match l with
   | []=>rfl
   | [x]=>cases x <;> first | rfl | (simp only [loadQ,loadD,partQ_eq])
   | [x,y]=>cases x <;> cases y <;> first | rfl | (simp only [loadQ,loadD,partQ_eq]; rfl)
   | x::y::z::l=>cases x <;> cases y <;> rfl
  | _=>rfl
 | _=>rfl
noncomputable def storeQ (s:SQ G) (t:TypeId) (a v:Value):Option (SQ G) :=
 match a with
 | .pointer (some ⟨id,o,none⟩)=>match sizeD P t with
  | some n=>(rowQ s id).bind fun r=>forceQ v.cells.toList fun l=>bif Nat.beq (lenQ l) n&&(allQ oneC l&&Nat.ble (Nat.add o n) (lenQ r)) then overK o l r fun r=>putK s id (.row r) some else none
  | none=>none
 | _=>none
theorem storeQ_eq:(storeQ P:SQ G→TypeId→Value→Value→Option (SQ G))=storeD P:=by
 funext s t a v
 cases a with
 | pointer a =>
  rcases a with _ | ⟨id,o,_ | sp⟩
  · rfl
  · show (match sizeD P t with | some n=>_ | none=>none)=(some (id,o)).bind fun p=>(sizeD P t).bind fun n=>bif Nat.beq v.cells.toList.length n then storeAt s p.1 p.2 v.cells.toList else none
    cases sizeD P t with
    | none=>rfl
    | some n =>
     simp only [Option.bind_some,rowQ_eq,forceQ_eq,lenQ_eq,allQ_eq,overK_eq,putK_eq]
     unfold storeAt
     cases hl:Nat.beq v.cells.toList.length n with
     | false=>cases rowD s id <;> simp
     | true =>
      have hl:=Nat.eq_of_beq_eq_true hl
      subst hl
      cases rowD s id <;> rfl
  · rfl
 | _=>rfl
noncomputable def indexAddrQ (t:TypeId) (x i:Value):Option Value :=
 match x with
 | .iface o (.tuple arr)=>match i with
  | .int _ (.ofNat k)=>match P.underlying t with
   | some (.slice e)=>match sizeD P e with
    | some z=>match nthQ arr.toList k with
     | some (.agg c)=>bif Nat.beq (lenQ c.toList) z then some (fpV c 0) else none
     | _=>none
    | none=>none
   | _=>indexAddrD P t (.iface o (.tuple arr)) i
  | i=>indexAddrD P t (.iface o (.tuple arr)) i
 | .pointer (some ⟨id,o,none⟩)=>match i with
  | .int _ (.ofNat k)=>match P.underlying t with
   | some (.array len e)=>match sizeD P e with
    | some z=>bif Nat.blt k len then forceN (Nat.add o (Nat.mul k z)) fun p=>some (.pointer (some ⟨id,p,none⟩)) else none
    | none=>none
   | _=>none
  | i=>indexAddrD P t (.pointer (some ⟨id,o,none⟩)) i
 | .slice (some ⟨id,o,none⟩) len c=>match i with
  | .int _ (.ofNat k)=>match P.underlying t with
   | some (.slice e)=>match sizeD P e with
    | some z=>bif Nat.blt k len then forceN (Nat.add o (Nat.mul k z)) fun p=>some (.pointer (some ⟨id,p,none⟩)) else none
    | none=>none
   | _=>none
  | i=>indexAddrD P t (.slice (some ⟨id,o,none⟩) len c) i
 | x=>indexAddrD P t x i
theorem elD_q (z : Nat) (arr : Array Value) (k : Nat) : (match nthQ arr.toList k with
          | some (.agg c)=>bif Nat.beq (lenQ c.toList) z then some (fpV c 0) else none
          | _=>none)=(elD z arr k).map fun c=>fpV c 0:=by
 unfold elD
 rw [nthQ_eq]
 cases arr.toList[k]? with
 | none=>rfl
 | some v =>
  cases v with
  | agg c =>
   have:lenQ c.toList=c.size:=by rw [lenQ_eq]; exact Array.length_toList
   simp only [this]
   cases Nat.beq c.size z <;> rfl
  | _=>rfl
theorem dec_lt (k n:Nat):decide ((Int.ofNat k:Int)<(n:Int))=Nat.blt k n:=by
 rw [blt_dec]
 by_cases h:k<n
 · rw [decide_eq_true h,decide_eq_true]; exact Int.ofNat_lt.2 h
 · rw [decide_eq_false h,decide_eq_false]; exact fun e=>h (Int.ofNat_lt.1 e)
theorem dec_le (k:Nat):decide ((0:Int)≤Int.ofNat k)=true:=decide_eq_true (Int.natCast_nonneg k)
theorem indexAddrQ_eq:indexAddrQ P=indexAddrD P:=by
 funext t x i
 cases x with
 | iface o v =>
  cases v with
  | tuple arr =>
   cases i with
   | int j n =>
    cases n with
    | ofNat k =>
     show (match P.underlying t with | some (.slice e)=>_ | _=>indexAddrD P t (.iface o (.tuple arr)) (.int j (.ofNat k)))=_
     cases hu:P.underlying t with
     | none=>rfl
     | some d =>
      cases d with
      | slice e =>
       simp only [indexAddrD,hu]
       cases sizeD P e with
       | none=>rfl
       | some z=>simp only [elD_q,dec_le,Option.bind_some,cond_true]; rfl
      | _=>rfl
    | negSucc k=>rfl
   | _=>rfl
  | _=>rfl
 | pointer a =>
  rcases a with _ | ⟨id,o,_ | sp⟩
  · rfl
  · cases i with
    | int j n =>
     cases n with
     | ofNat k =>
      show (match P.underlying t with | some (.array len e)=>_ | _=>none)=_
      cases hu:P.underlying t with
      | none=>simp only [indexAddrD,hu]
      | some d =>
       cases d with
       | array len e =>
        simp only [indexAddrD,hu]
        cases sizeD P e with
        | none=>rfl
        | some z=>simp only [dec_le,dec_lt,Bool.true_and,forceN_eq,Option.bind_some]; rfl
       | _=>simp only [indexAddrD,hu]
     | negSucc k=>rfl
    | _=>rfl
  · rfl
 | slice a len c =>
  rcases a with _ | ⟨id,o,_ | sp⟩
  · rfl
  · cases i with
    | int j n =>
     cases n with
     | ofNat k =>
      show (match P.underlying t with | some (.slice e)=>_ | _=>none)=_
      cases hu:P.underlying t with
      | none=>simp only [indexAddrD,hu]
      | some d =>
       cases d with
       | slice e =>
        simp only [indexAddrD,hu]
        cases sizeD P e with
        | none=>rfl
        | some z=>simp only [dec_le,dec_lt,Bool.true_and,forceN_eq,Option.bind_some]; rfl
       | _=>simp only [indexAddrD,hu]
     | negSucc k=>rfl
    | _=>rfl
  · rfl
 | _=>rfl
end ops
end Go.FS
