import Derived.Test.YtmhmbmogodofeaaFb
import Derived.Laws.IdiomCopy
import Derived.Below
import Derived.RangeFuncIn
import Derived.RangeFuncLeaves
namespace Go.FS
open Go.RowKit
structure Env where
 n:Nat
 blk:Nat→Nat
 off:Nat→Nat
 sz:Nat→Nat
 own:Nat→Bool
  /-- Cells that are never written again. -/
 fz:Nat→Nat→Option Value
  /-- The room of a token, where its slice has so many elements: the block, from where, to where, an element's cells. -/
 tk:Nat→Nat→Option (Nat×Nat×Nat×Nat)
  /-- Blocks in which there is such room. -/
 tb:Nat→Bool
def elC (arr:Array Value) (i j:Nat):Value :=
 match arr.toList[i]? with
 | some (.agg c)=>c.toList.getD j dc
 | _=>dc
inductive VRel (E:Env):Value→Value→Prop
 | dc (v:Value):VRel E (.tuple #[.nilFunc]) v
 | bool (b:Bool):VRel E (.bool b) (.bool b)
 | int (k:IntKind) (n:Int):VRel E (.int k n) (.int k n)
 | string (b:ByteArray):VRel E (.string b) (.string b)
 | nilFunc:VRel E .nilFunc .nilFunc
 | nilIface:VRel E .nilIface .nilIface
 | nilPtr:VRel E (.pointer none) (.pointer none)
 | nilMap:VRel E (.map none) (.map none)
 | nilSlice:VRel E (.slice none 0 0) (.slice none 0 0)
 | ptr (id o:Nat) (h:id<E.n):VRel E (.pointer (some ⟨id,o,none⟩)) (.pointer (some ⟨E.blk id,E.off id+o,none⟩))
 | slice (id o len c:Nat) (a:Addr) (cap:Nat) (hid:id<E.n) (hl:len≤cap) (hx:c % 2=1→cap=len)
  (ha:cap=0∨(id<E.n∧a=⟨E.blk id,E.off id+o,none⟩∧E.off id+o+cap*(c / 2)≤E.sz id)):VRel E (.slice (some ⟨id,o,none⟩) len c) (.slice (some a) len cap)
 | map (id:Nat) (h:id<E.n):VRel E (.map (some id)) (.map (some (E.blk id)))
 | func (f:FuncId) (a a' b b':Array Value) (ha:a.size=a'.size) (hb:b.size=b'.size)
  (ra:∀ i (h:i<a.size) (h':i<a'.size),VRel E a[i] a'[i]) (rb:∀ i (h:i<b.size) (h':i<b'.size),VRel E b[i] b'[i]) :
  VRel E (.func (.func f) a b) (.func (.func f) a' b')
 | yld (l:Nat) (h:l<E.n):VRel E (.func (.yield l) #[] #[]) (.func (.yield (E.blk l)) #[] #[])
 | agg (a a':Array Value) (ha:a.size=a'.size) (ra:∀ i (h:i<a.size) (h':i<a'.size),VRel E a[i] a'[i]):VRel E (.agg a) (.agg a')
 | tuple (a a':Array Value) (ha:a.size=a'.size) (ra:∀ i (h:i<a.size) (h':i<a'.size),VRel E a[i] a'[i]):VRel E (.tuple a) (.tuple a')
 | fz (m:Nat) (arr:Array Value) (z:Nat) (base:Option Addr) (cap b o:Nat) (f:Nat→Nat→Value)
  (hz:∀ i,i<arr.size→∃ c,arr.toList[i]?=some (.agg c)∧c.size=z) (hl:arr.size≤cap) (hb:cap=0∨base=some ⟨b,o,none⟩)
  (hf:∀ i j,i<arr.size→j<z→E.fz b (o+i*z+j)=some (f i j)) (hr:∀ i j,i<arr.size→j<z→VRel E (elC arr i j) (f i j))
  (h1:∀ i j,i<arr.size→j<z→oneC (elC arr i j)=true)
  (hx:(m=1→cap=arr.size)∧(m=2→base=none∧cap=0)) (ht:∀ id,m=id+3→id<E.n∧∃ r,E.tk id arr.size=some r∧(cap=arr.size∨(0<z∧r=(b,o+arr.size*z,o+cap*z,z)))) :
  VRel E (.iface m (.tuple arr)) (.slice base arr.size cap)
 | fp (cs:Array Value) (o b p:Nat) (f:Nat→Value) (hf:∀ j,j<cs.size→E.fz b (p+j)=some (f j)) (hr:∀ j (h:j<cs.size),VRel E cs[j] (f j)) :
  VRel E (.iface o (.tuple #[.tuple cs])) (.pointer (some ⟨b,p+o,none⟩))
 | gp (g o:Nat):VRel E (.iface o (.tuple #[.tuple #[],.int .i64 g])) (.pointer (some ⟨g,o,none⟩))
 | iface (t:TypeId) (v v':Value) (h:isTup v=false) (hr:VRel E v v'):VRel E (.iface t v) (.iface t v')
def LRel (E:Env) (l l':List Value):Prop:=l.length=l'.length∧∀ i (h:i<l.length) (h':i<l'.length),VRel E l[i] l'[i]
structure Env.Le (E E':Env):Prop where
 n:E.n≤E'.n
 blk:∀ i,i<E.n→E'.blk i=E.blk i
 off:∀ i,i<E.n→E'.off i=E.off i
 sz:∀ i,i<E.n→E'.sz i=E.sz i
 own:∀ i,i<E.n→E'.own i=E.own i
 fz:∀ b o v,E.fz b o=some v→E'.fz b o=some v
 tk:∀ i,i<E.n→∀ L r,E.tk i L=some r→E'.tk i L=some r
 tb:∀ b,E.tb b=true→E'.tb b=true
theorem Env.Le.refl (E:Env):E.Le E:=⟨Nat.le_refl _,fun _ _=>rfl,fun _ _=>rfl,fun _ _=>rfl,fun _ _=>rfl,fun _ _ _ h=>h,fun _ _ _ _ h=>h,fun _ h=>h⟩
theorem Env.Le.trans {E F G:Env} (h:E.Le F) (k:F.Le G):E.Le G :=
 ⟨Nat.le_trans h.n k.n,fun i hi=>(k.blk i (Nat.lt_of_lt_of_le hi h.n)).trans (h.blk i hi),fun i hi=>(k.off i (Nat.lt_of_lt_of_le hi h.n)).trans (h.off i hi),
  fun i hi=>(k.sz i (Nat.lt_of_lt_of_le hi h.n)).trans (h.sz i hi),fun i hi=>(k.own i (Nat.lt_of_lt_of_le hi h.n)).trans (h.own i hi),
  fun b o v hv=>k.fz b o v (h.fz b o v hv),fun i hi L r hr=>k.tk i (Nat.lt_of_lt_of_le hi h.n) L r (h.tk i hi L r hr),fun b hb=>k.tb b (h.tb b hb)⟩
theorem VRel.mono {E E':Env} (hE:E.Le E') {v v':Value} (h:VRel E v v'):VRel E' v v':=by
 induction h with
 | dc v=>exact .dc v
 | bool b=>exact .bool b
 | int k n=>exact .int k n
 | string b=>exact .string b
 | nilFunc=>exact .nilFunc
 | nilIface=>exact .nilIface
 | nilPtr=>exact .nilPtr
 | nilMap=>exact .nilMap
 | nilSlice=>exact .nilSlice
 | ptr id o h=>rw [← hE.blk id h,← hE.off id h]; exact .ptr id o (Nat.lt_of_lt_of_le h hE.n)
 | slice id o len c a cap hid hl hx ha =>
  refine .slice id o len c a cap (Nat.lt_of_lt_of_le hid hE.n) hl hx ?_
  rcases ha with ha | ⟨h,ha⟩
  · exact .inl ha
  · rw [hE.blk id h,hE.off id h,hE.sz id h]; exact .inr ⟨Nat.lt_of_lt_of_le h hE.n,ha⟩
 | map id h=>rw [← hE.blk id h]; exact .map id (Nat.lt_of_lt_of_le h hE.n)
 | func f a a' b b' ha hb _ _ iha ihb=>exact .func f a a' b b' ha hb iha ihb
 | yld l h=>rw [← hE.blk l h]; exact .yld l (Nat.lt_of_lt_of_le h hE.n)
 | agg a a' ha _ ih=>exact .agg a a' ha ih
 | tuple a a' ha _ ih=>exact .tuple a a' ha ih
 | fz m arr z base cap b o f hz hl hb hf _ h1 hx ht ih =>
  refine .fz m arr z base cap b o f hz hl hb (fun i j hi hj=>hE.fz _ _ _ (hf i j hi hj)) ih h1 hx fun id e=>?_
  obtain ⟨h,r,hr,hc⟩:=ht id e
  exact ⟨Nat.lt_of_lt_of_le h hE.n,r,hE.tk id h _ _ hr,hc⟩
 | fp cs o b p f hf _ ih=>exact .fp cs o b p f (fun j hj=>hE.fz _ _ _ (hf j hj)) ih
 | gp g o=>exact .gp g o
 | iface t v v' h _ ih=>exact .iface t v v' h ih
theorem LRel.mono {E E':Env} (hE:E.Le E') {l l':List Value} (h:LRel E l l'):LRel E' l l':=⟨h.1,fun i a b=>(h.2 i a b).mono hE⟩
theorem LRel.nil (E:Env):LRel E [] []:=⟨rfl,fun i h=>by simp at h⟩
theorem LRel.cons {E:Env} {v v':Value} {l l':List Value} (hv:VRel E v v') (hl:LRel E l l'):LRel E (v::l) (v'::l') :=
 ⟨by simp [hl.1],fun i h h'=>by
  cases i with
  | zero=>simpa using hv
  | succ i=>simpa using hl.2 i (by simpa using h) (by simpa using h')⟩
theorem LRel.uncons {E:Env} {v:Value} {l m:List Value} (h:LRel E (v::l) m):∃ v' l',m=v'::l'∧VRel E v v'∧LRel E l l':=by
 obtain ⟨hs,h⟩:=h
 cases m with
 | nil=>simp at hs
 | cons v' l'=>exact ⟨v',l',rfl,h 0 (Nat.succ_pos _) (Nat.succ_pos _),by simpa using hs,fun i a b=>h (i+1) (Nat.succ_lt_succ a) (Nat.succ_lt_succ b)⟩
theorem LRel.unnil {E:Env} {m:List Value} (h:LRel E [] m):m=[]:=by
 have:=h.1; cases m with
 | nil=>rfl
 | cons _ _=>simp at this
theorem LRel.append {E:Env} {l l' m m':List Value} (h:LRel E l l') (k:LRel E m m'):LRel E (l++m) (l'++m'):=by
 induction l generalizing l' with
 | nil=>obtain rfl:=h.unnil; simpa using k
 | cons v l ih =>
  obtain ⟨v',l'',rfl,hv,hl⟩:=h.uncons
  exact .cons hv (ih hl)
theorem LRel.get {E:Env} {l l':List Value} (h:LRel E l l') {i:Nat} {v:Value} (hv:l[i]?=some v):∃ v',l'[i]?=some v'∧VRel E v v':=by
 obtain ⟨hi,rfl⟩:=List.getElem?_eq_some_iff.1 hv
 have hi':i<l'.length:=h.1 ▸ hi
 exact ⟨l'[i],by simp [hi'],h.2 i hi hi'⟩
theorem LRel.getD {E:Env} {l l':List Value} (h:LRel E l l') (i:Nat) {d d':Value} (hd:VRel E d d'):VRel E (l.getD i d) (l'.getD i d'):=by
 by_cases hi:i<l.length
 · have hi':i<l'.length:=h.1 ▸ hi
   simpa [List.getD,hi,hi'] using h.2 i hi hi'
 · have hi':¬ i<l'.length:=h.1 ▸ hi
   simpa [List.getD,List.getElem?_eq_none (Nat.le_of_not_lt hi),List.getElem?_eq_none (Nat.le_of_not_lt hi')] using hd
theorem LRel.set {E:Env} {l l':List Value} (h:LRel E l l') (i:Nat) {v v':Value} (hv:VRel E v v'):LRel E (l.set i v) (l'.set i v'):=by
 refine ⟨by simp [h.1],fun j a b=>?_⟩
 simp only [List.getElem_set]
 split
 · exact hv
 · exact h.2 j (by simpa using a) (by simpa using b)
theorem LRel.drop {E:Env} {l l':List Value} (h:LRel E l l') (i:Nat):LRel E (l.drop i) (l'.drop i) :=
 ⟨by simp [h.1],fun j a b=>by simp only [List.getElem_drop]; exact h.2 _ _ _⟩
theorem LRel.take {E:Env} {l l':List Value} (h:LRel E l l') (i:Nat):LRel E (l.take i) (l'.take i) :=
 ⟨by simp [h.1],fun j a b=>by simp only [List.getElem_take]; exact h.2 _ _ _⟩
theorem LRel.arr {E:Env} {a a':Array Value} (h:LRel E a.toList a'.toList):a.size=a'.size∧∀ i (h:i<a.size) (h':i<a'.size),VRel E a[i] a'[i] :=
 ⟨by simpa using h.1,fun i x y=>by
  have:=h.2 i (by simpa using x) (by simpa using y)
  rwa [Array.getElem_toList,Array.getElem_toList] at this⟩
theorem LRel.ofArr {E:Env} {a a':Array Value} (ha:a.size=a'.size) (ra:∀ i (h:i<a.size) (h':i<a'.size),VRel E a[i] a'[i]):LRel E a.toList a'.toList :=
 ⟨by simpa using ha,fun i x y=>by rw [Array.getElem_toList,Array.getElem_toList]; exact ra i _ _⟩
theorem VRel.aggL {E:Env} {l l':List Value} (h:LRel E l l'):VRel E (.agg l.toArray) (.agg l'.toArray):=by
 have:=LRel.arr (a:=l.toArray) (a':=l'.toArray) (by simpa using h); exact .agg _ _ this.1 this.2
theorem VRel.tupleL {E:Env} {l l':List Value} (h:LRel E l l'):VRel E (.tuple l.toArray) (.tuple l'.toArray):=by
 have:=LRel.arr (a:=l.toArray) (a':=l'.toArray) (by simpa using h); exact .tuple _ _ this.1 this.2
theorem VRel.undef (E:Env):VRel E undefV Go.undef:=.tuple #[] #[] rfl (fun i h=>by simp at h)
theorem flat1_rel {E:Env} {v v':Value} (hf:flat1 v=true) (h:VRel E v v'):v'=v:=by
 cases h <;> first | rfl | simp [flat1] at hf
theorem flat1_refl {E:Env} {v:Value} (hf:flat1 v=true):VRel E v v:=by
 unfold flat1 at hf
 split at hf <;> first | exact .bool _ | exact .int _ _ | exact .string _ | exact .nilFunc | exact .nilIface | exact .nilPtr | exact .nilMap | exact .nilSlice | simp at hf
theorem nil_rel (E:Env):VRel E (fzV 2 #[]) (.slice none 0 0) :=
 .fz 2 #[] 0 none 0 0 0 (fun _ _=>.bool true) (fun i h=>absurd h (Nat.not_lt_zero i)) (Nat.le_refl _) (.inl rfl) (fun i _ h=>absurd h (Nat.not_lt_zero i)) (fun i _ h=>absurd h (Nat.not_lt_zero i)) (fun i _ h=>absurd h (Nat.not_lt_zero i)) ⟨fun h=>by omega,fun _=>⟨rfl,rfl⟩⟩ (fun id h=>by omega)
theorem nz1_rel {E:Env} {v:Value} (hf:flat1 v=true):VRel E (nz1 v) v:=by
 unfold nz1
 split
 · exact nil_rel E
 · exact flat1_refl hf
theorem LRel.flat1 {E:Env} {l l':List Value} (hf:l.all flat1=true) (h:LRel E l l'):l'=l:=by
 induction l generalizing l' with
 | nil=>exact h.unnil
 | cons v l ih =>
  obtain ⟨v',l'',rfl,hv,hl⟩:=h.uncons
  simp only [List.all_cons,Bool.and_eq_true] at hf
  rw [flat1_rel hf.1 hv,ih hf.2 hl]
theorem LRel.flat1_refl {E:Env} {l:List Value} (hf:l.all FS.flat1=true):LRel E l l:=by
 induction l with
 | nil=>exact .nil E
 | cons v l ih =>
  simp only [List.all_cons,Bool.and_eq_true] at hf
  exact .cons (FS.flat1_refl hf.1) (ih hf.2)
theorem LRel.nz1 {E:Env} {l:List Value} (hf:l.all FS.flat1=true):LRel E (l.map FS.nz1) l:=by
 induction l with
 | nil=>exact .nil E
 | cons v l ih =>
  simp only [List.all_cons,Bool.and_eq_true] at hf
  exact .cons (FS.nz1_rel hf.1) (ih hf.2)
theorem flat_rel {E:Env} {v v':Value} (hf:flat v=true) (h:VRel E v v'):v'=v:=by
 cases h with
 | agg a a' ha ra =>
  have:=LRel.flat1 (l:=a.toList) (l':=a'.toList) hf (LRel.ofArr ha ra)
  rw [Array.toList_inj.1 this]
 | tuple a a' ha ra =>
  have h0:a.size=0:=by simp [flat] at hf; simpa using congrArg Array.size hf
  rw [Array.size_eq_zero_iff.1 h0,Array.size_eq_zero_iff.1 (show a'.size=0 from ha ▸ h0)]
 | dc v=>simp [flat] at hf
 | ptr=>simp [flat,flat1] at hf
 | slice=>simp [flat,flat1] at hf
 | map=>simp [flat,flat1] at hf
 | func=>simp [flat,flat1] at hf
 | yld=>simp [flat,flat1] at hf
 | fz=>simp [flat,flat1] at hf
 | fp=>simp [flat,flat1] at hf
 | gp=>simp [flat,flat1] at hf
 | iface=>simp [flat,flat1] at hf
 | _=>rfl
theorem flat_refl {E:Env} {v:Value} (hf:flat v=true):VRel E v v:=by
 cases v with
 | agg a=>exact (LRel.arr (LRel.flat1_refl (l:=a.toList) hf)).elim fun a b=>.agg _ _ a b
 | tuple a =>
  have h0:a.size=0:=by simp [flat] at hf; simpa using congrArg Array.size hf
  exact .tuple _ _ rfl (fun i h=>by omega)
 | _=>exact flat1_refl hf
theorem nz_rel {E:Env} {v:Value} (hf:flat v=true):VRel E (nz v) v:=by
 cases v with
 | agg a =>
  have h1:=LRel.nz1 (E:=E) (l:=a.toList) hf
  have:=VRel.aggL h1
  simpa [nz] using this
 | tuple a=>exact flat_refl hf
 | bool b=>exact .bool b
 | int k n=>exact .int k n
 | string b=>exact .string b
 | nilFunc=>exact .nilFunc
 | nilIface=>exact .nilIface
 | pointer a=>exact nz1_rel (v:=.pointer a) hf
 | slice a l c=>exact nz1_rel (v:=.slice a l c) hf
 | map a=>exact nz1_rel (v:=.map a) hf
 | _=>simp [flat,flat1] at hf
theorem LRel.flats {E:Env} {l l':List Value} (hf:l.all flat=true) (h:LRel E l l'):l'=l:=by
 induction l generalizing l' with
 | nil=>exact h.unnil
 | cons v l ih =>
  obtain ⟨v',l'',rfl,hv,hl⟩:=h.uncons
  simp only [List.all_cons,Bool.and_eq_true] at hf
  rw [flat_rel hf.1 hv,ih hf.2 hl]
theorem oneC_rel {E:Env} {v v':Value} (ho:oneC v=true) (h:VRel E v v'):v'.oneCell'=true:=by
 cases h <;> first | rfl | simp [oneC] at ho
theorem LRel.oneC {E:Env} {l l':List Value} (ho:l.all oneC=true) (h:LRel E l l'):∀ v∈l',v.oneCell'=true:=by
 induction l generalizing l' with
 | nil=>obtain rfl:=h.unnil; simp
 | cons v l ih =>
  obtain ⟨v',l'',rfl,hv,hl⟩:=h.uncons
  simp only [List.all_cons,Bool.and_eq_true] at ho
  intro x hx
  cases hx with
  | head=>exact oneC_rel ho.1 hv
  | tail _ hx=>exact ih ho.2 hl x hx
section world
variable {H:HeapI}
structure RowRel (E:Env) (w:World) (id:Nat) (cs:List Value):Prop where
 shape:∃ e,w.shape? (E.blk id)=some (e,E.sz id)
 room:E.off id+cs.length≤E.sz id
 cell:∀ i (h:i<cs.length),∃ v',w.cell? ⟨E.blk id,E.off id+i,none⟩=some v'∧VRel E cs[i] v'
 own:E.own id=true
 free:∀ o,o≤E.sz id→w.frozen? ⟨E.blk id,o,none⟩=false
structure LoopRel (E:Env) (w:World) (id:Nat) (st:Nat) (pe:Option Code) (_:FuncId) (t:List Value) (ps:List Tmp) (as bo:Code):Prop where
 own:E.own id=true
 is:∃ (r:Loop),w.heap[E.blk id]?=some (.loop r)∧r.state=(match st with | 0=>.ready | 1=>.busy | _=>.done)∧r.pending=pe∧LRel E t r.tmps.toList∧r.params.toList=ps∧r.assign=as∧r.body=bo
def ERel (E:Env) (l:List (Value×Value×Nat)) (m:List MapEntry):Prop :=
 l.length=m.length∧∀ i (h:i<l.length) (h':i<m.length),VRel E l[i].1 m[i].key∧VRel E l[i].2.1 m[i].val∧l[i].2.2=m[i].born
structure MapRel (E:Env) (w:World) (id:Nat) (es:List (Value×Value×Nat)) (clock:Nat):Prop where
 own:E.own id=true
 is:∃ es',w.heap[E.blk id]?=some (.map es' clock)∧ERel E es es'.toList
structure IterRel (E:Env) (w:World) (id:Nat) (m:Option Nat) (since:Nat) (seen:List Nat) (last:Nat):Prop where
 own:E.own id=true
 at0:E.off id=0
 lt:∀ x,m=some x→x<E.n
 is:w.heap[E.blk id]?=some (.mapIter (m.map E.blk) since seen.toArray last)
structure TokRel (E:Env) (w:World) (id L z:Nat):Prop where
 own:E.own id=false
 top:∀ L',L<L'→E.tk id L'=none
 is:∃ b f t,E.tk id L=some (b,f,t,z)∧(f<t→b<w.heap.size∧E.tb b=true∧(∃ e n,w.shape? b=some (e,n)∧t≤n)∧∀ o,f≤o→o<t→w.frozen? ⟨b,o,none⟩=false∧E.fz b o=none)
def ORel' (E:Env) (w:World) (id:Nat):DObj→Prop
 | .row cs=>RowRel E w id cs
 | .tok L z=>TokRel E w id L z
 | .map es c=>MapRel E w id es c
 | .iter m a b c=>IterRel E w id m a b c
 | .loop st pe fn t ps as bo=>LoopRel E w id st pe fn t ps as bo
def owned:DObj→Bool
 | .tok _ _=>false
 | _=>true
theorem ORel'.own {E:Env} {w:World} {id:Nat} {o:DObj} (h:ORel' E w id o):E.own id=owned o:=by
 cases o with
 | row=>exact RowRel.own h
 | tok=>exact TokRel.own h
 | map=>exact MapRel.own h
 | iter=>exact IterRel.own h
 | loop=>exact LoopRel.own h
def GlbRel (E:Env) (g:Nat) (cs:Array Value):Prop:=∀ j (h:j<cs.size),∃ v',E.fz g j=some v'∧VRel E cs[j] v'
theorem GlbRel.mono {E E':Env} (hE:E.Le E') {g:Nat} {cs:Array Value} (h:GlbRel E g cs):GlbRel E' g cs:=fun j hj=>by
 obtain ⟨v',h1,h2⟩:=h j hj
 exact ⟨v',hE.fz _ _ _ h1,h2.mono hE⟩
structure WRel (E:Env) (s:St H) (w:World):Prop where
 n:E.n=s.n
 blt:∀ i,i<E.n→E.own i=true→E.blk i<w.heap.size
 lt:∀ i o,H.get s.h i=some o→i<E.n
 inj:∀ i j oi oj,H.get s.h i=some oi→H.get s.h j=some oj→i≠j→E.own i=true→E.own j=true→E.blk i≠E.blk j
 obj:∀ i o,H.get s.h i=some o→ORel' E w i o
 tinj:∀ i j L z L' z' b f t f' t',H.get s.h i=some (.tok L z)→H.get s.h j=some (.tok L' z')→i≠j→E.tk i L=some (b,f,t,z)→f<t→E.tk j L'=some (b,f',t',z')→f'<t'→False
 tbo:∀ i o,H.get s.h i=some o→E.own i=true→E.tb (E.blk i)=false
 frz:∀ b o v,E.fz b o=some v→w.cell? ⟨b,o,none⟩=some v∧∀ i x,H.get s.h i=some x→E.own i=true→E.blk i≠b
 tbl:∀ b,E.tb b=true→b<w.heap.size
 glb:∀ g cs,H.glob g=some cs→GlbRel E g cs
theorem WRel.row {E:Env} {s:St H} {w:World} (h:WRel E s w) {i:Nat} {cs:List Value} (hg:H.get s.h i=some (.row cs)):RowRel E w i cs:=h.obj i _ hg
theorem WRel.loop {E:Env} {s:St H} {w:World} (h:WRel E s w) {i st:Nat} {pe:Option Code} {fn:FuncId} {t:List Value} {ps:List Tmp} {as bo:Code} (hg:H.get s.h i=some (.loop st pe fn t ps as bo)):LoopRel E w i st pe fn t ps as bo:=h.obj i _ hg
structure Keep (E:Env) (w:World) (E':Env) (w':World):Prop where
 le:E.Le E'
 fresh:∀ i,E.n≤i→i<E'.n→E'.own i=true→(∃ j,j<E.n∧E.own j=true∧E.blk j=E'.blk i)∨w.heap.size≤E'.blk i
 tbf:∀ b,E'.tb b=true→E.tb b=true∨(∃ j,j<E.n∧E.own j=true∧E.blk j=b)∨w.heap.size≤b
 os:w'.os=w.os
 tape:w'.tape=w.tape
 output:w'.output=w.output
 size:w.heap.size≤w'.heap.size
 block:∀ b,b<w.heap.size→(∀ j,j<E.n→E.own j=true→E.blk j≠b)→E.tb b=false→w'.heap[b]?=w.heap[b]?
 fzf:∀ b,b<w.heap.size→(∀ j,j<E.n→E.own j=true→E.blk j≠b)→E.tb b=false→∀ o,E'.fz b o=E.fz b o
theorem Keep.far {E E':Env} {w w':World} (h:Keep E w E' w') {b:Nat} (hb:b<w.heap.size) (hn:∀ j,j<E.n→E.own j=true→E.blk j≠b) (ht:E.tb b=false) :
 (∀ j,j<E'.n→E'.own j=true→E'.blk j≠b)∧E'.tb b=false:=by
 refine ⟨fun j hj ho e=>?_,?_⟩
 · by_cases hj':j<E.n
   · exact hn j hj' ((h.le.own j hj') ▸ ho) ((h.le.blk j hj') ▸ e)
   · rcases h.fresh j (by omega) hj ho with ⟨j2,a1,a2,a3⟩ | a1
     · exact hn j2 a1 a2 (a3.trans e)
     · omega
 · cases hq:E'.tb b with
   | false=>rfl
   | true =>
    exfalso
    rcases h.tbf b hq with h1 | ⟨j,a1,a2,a3⟩ | h1
    · rw [ht] at h1; cases h1
    · exact hn j a1 a2 a3
    · omega
theorem Keep.refl (E:Env) (w:World):Keep E w E w :=
 ⟨.refl E,fun i a b=>by omega,fun _ h=>.inl h,rfl,rfl,rfl,Nat.le_refl _,fun _ _ _ _=>rfl,fun _ _ _ _ _=>rfl⟩
theorem Keep.trans {E F G:Env} {u v w:World} (h:Keep E u F v) (k:Keep F v G w):Keep E u G w where
 le:=h.le.trans k.le
 fresh:=fun i a b c=>by
  by_cases hi:i<F.n
  · have h1:G.own i=F.own i:=k.le.own i hi
    have h2:G.blk i=F.blk i:=k.le.blk i hi
    rw [h2]
    exact h.fresh i a hi (h1 ▸ c)
  · rcases k.fresh i (by omega) b c with ⟨j,hj,ho,hb⟩ | hb
    · by_cases hj':j<E.n
      · exact .inl ⟨j,hj',(h.le.own j hj') ▸ ho,(h.le.blk j hj') ▸ hb⟩
      · rcases h.fresh j (by omega) hj ho with ⟨j2,a1,a2,a3⟩ | a1
        · exact .inl ⟨j2,a1,a2,a3.trans hb⟩
        · exact .inr (hb ▸ a1)
    · exact .inr (Nat.le_trans h.size hb)
 tbf:=fun b hb=>by
  rcases k.tbf b hb with hb | ⟨j,hj,ho,hb⟩ | hb
  · exact h.tbf b hb
  · by_cases hj':j<E.n
    · exact .inr (.inl ⟨j,hj',(h.le.own j hj') ▸ ho,(h.le.blk j hj') ▸ hb⟩)
    · rcases h.fresh j (by omega) hj ho with ⟨j2,a1,a2,a3⟩ | a1
      · exact .inr (.inl ⟨j2,a1,a2,a3.trans hb⟩)
      · exact .inr (.inr (hb ▸ a1))
  · exact .inr (.inr (Nat.le_trans h.size hb))
 os:=k.os.trans h.os
 tape:=k.tape.trans h.tape
 output:=k.output.trans h.output
 size:=Nat.le_trans h.size k.size
 block:=fun b hb hn ht=>(k.block b (Nat.lt_of_lt_of_le hb h.size) (h.far hb hn ht).1 (h.far hb hn ht).2).trans (h.block b hb hn ht)
 fzf:=fun b hb hn ht o=>(k.fzf b (Nat.lt_of_lt_of_le hb h.size) (h.far hb hn ht).1 (h.far hb hn ht).2 o).trans (h.fzf b hb hn ht o)
theorem Keep.drew (E:Env) (w:World):Keep E w E w.drew:=⟨.refl E,fun i a b=>by omega,fun _ h=>.inl h,rfl,rfl,rfl,Nat.le_refl _,fun _ _ _ _=>rfl,fun _ _ _ _ _=>rfl⟩
theorem Keep.below {E E':Env} {w w':World} (h:Keep E w E' w') (ho:∀ j,j<E.n→E.own j=false) (ht:∀ b,E.tb b=false):Below w.heap.size w w' :=
 ⟨h.os,h.tape,h.output,h.size,fun k hk=>h.block k hk (fun j hj e=>by rw [ho j hj] at e; cases e) (ht k)⟩
theorem shape_of_block {w w':World} {b:Nat} (h:w'.heap[b]?=w.heap[b]?):w'.shape? b=w.shape? b:=by simp only [World.shape?,h]
theorem ERel.mono {E E':Env} (hE:E.Le E') {l:List (Value×Value×Nat)} {m:List MapEntry} (h:ERel E l m):ERel E' l m:=⟨h.1,fun i a b=>⟨(h.2 i a b).1.mono hE,(h.2 i a b).2.1.mono hE,(h.2 i a b).2.2⟩⟩
theorem RowRel.of_block {E E':Env} {w w':World} {id:Nat} {cs:List Value} (h:RowRel E w id cs) (hE:E.Le E') (hi:id<E.n) (hb:w'.heap[E.blk id]?=w.heap[E.blk id]?):RowRel E' w' id cs where
 shape:=by rw [hE.blk id hi,hE.sz id hi,shape_of_block hb]; exact h.shape
 room:=by rw [hE.off id hi,hE.sz id hi]; exact h.room
 cell:=fun i hl=>by
  obtain ⟨v',hv,hr⟩:=h.cell i hl
  exact ⟨v',by rw [hE.blk id hi,hE.off id hi,World.cell?_of_block (w:=w) (by exact hb)]; exact hv,hr.mono hE⟩
 own:=by rw [hE.own id hi]; exact h.own
 free:=fun o ho=>by
  rw [hE.blk id hi,World.frozen?_of_block (w:=w) (by exact hb)]
  exact h.free o (by rw [← hE.sz id hi]; exact ho)
theorem ORel'.of_block {E E':Env} {w w':World} {id:Nat} {o:DObj} (h:ORel' E w id o) (ho:owned o=true) (hE:E.Le E') (hi:id<E.n) (hb:w'.heap[E.blk id]?=w.heap[E.blk id]?):ORel' E' w' id o:=by
 cases o with
 | row cs=>exact RowRel.of_block h hE hi hb
 | tok=>cases ho
 | map es c =>
  obtain ⟨h1,es',h2,h3⟩:=h
  exact ⟨by rw [hE.own id hi]; exact h1,es',by rw [hE.blk id hi,hb]; exact h2,h3.mono hE⟩
 | iter m a b c =>
  obtain ⟨h1,h4,h2,h3⟩:=h
  refine ⟨by rw [hE.own id hi]; exact h1,by rw [hE.off id hi]; exact h4,fun x hx=>Nat.lt_of_lt_of_le (h2 x hx) hE.n,?_⟩
  rw [hE.blk id hi,hb,h3]
  cases m with
  | none=>rfl
  | some x=>simp only [Option.map_some,hE.blk x (h2 x rfl)]
 | loop st pe fn t ps as bo =>
  obtain ⟨h0,r,h1,h2,h3,h5,h6⟩:=h
  exact ⟨by rw [hE.own id hi]; exact h0,r,by rw [hE.blk id hi,hb]; exact h1,h2,h3,h5.mono hE,h6⟩
theorem TokRel.of_block {E E':Env} {w w':World} {id L z:Nat} (h:TokRel E w id L z) (hown:E'.own id=false) (htk:∀ L',E'.tk id L'=E.tk id L') (htb:∀ b,E.tb b=true→E'.tb b=true) (hsz:w.heap.size≤w'.heap.size)
 (hb:∀ b f t,E.tk id L=some (b,f,t,z)→f<t→w'.shape? b=w.shape? b∧∀ o,f≤o→o<t→w'.frozen? ⟨b,o,none⟩=w.frozen? ⟨b,o,none⟩∧E'.fz b o=E.fz b o):TokRel E' w' id L z:=by
 obtain ⟨_,h1,b,f,t,h2,h3⟩:=h
 refine ⟨hown,fun L' hL=>by rw [htk]; exact h1 L' hL,b,f,t,by rw [htk]; exact h2,fun hft=>?_⟩
 obtain ⟨a1,a2,a3,a4⟩:=h3 hft
 obtain ⟨b1,b2⟩:=hb b f t h2 hft
 exact ⟨Nat.lt_of_lt_of_le a1 hsz,htb b a2,by rw [b1]; exact a3,fun o h1 h2=>by rw [(b2 o h1 h2).1,(b2 o h1 h2).2]; exact a4 o h1 h2⟩
theorem WRel.off {E:Env} {s:St H} {w w':World} (h:WRel E s w) (hsz:w.heap.size≤w'.heap.size) (hb:∀ b,b<w.heap.size→((∃ i o,H.get s.h i=some o∧E.own i=true∧E.blk i=b)∨E.tb b=true∨∃ o v,E.fz b o=some v)→w'.heap[b]?=w.heap[b]?):WRel E s w' where
 n:=h.n
 blt:=fun i hi ho=>Nat.lt_of_lt_of_le (h.blt i hi ho) hsz
 lt:=h.lt
 inj:=h.inj
 obj:=fun i o hg=>by
  have ho:=(h.obj i o hg).own
  cases hq:owned o with
  | true=>exact (h.obj i o hg).of_block hq (.refl E) (h.lt i _ hg) (hb _ (h.blt i (h.lt i o hg) (ho.trans hq)) (.inl ⟨i,o,hg,ho.trans hq,rfl⟩))
  | false =>
   cases o with
   | tok L z =>
    refine TokRel.of_block (h.obj i _ hg) (TokRel.own (h.obj i _ hg)) (fun _=>rfl) (fun _ h=>h) hsz fun b f t h1 h2=>?_
    obtain ⟨_,_,b',f',t',q1,q2⟩:=h.obj i _ hg
    rw [q1] at h1; injection h1 with h1; injection h1 with e1 h1; injection h1 with e2 h1; injection h1 with e3 h1
    subst e1 e2 e3
    obtain ⟨a1,a2,_⟩:=q2 h2
    have e:=hb _ a1 (.inr (.inl a2))
    exact ⟨shape_of_block e,fun o _ _=>⟨World.frozen?_of_block (w:=w) (by exact e),rfl⟩⟩
   | _=>cases hq
 tinj:=h.tinj
 tbo:=h.tbo
 frz:=fun b o v hv=>by
  obtain ⟨h1,h2⟩:=h.frz b o v hv
  have hlt:b<w.heap.size:=by
   rcases Nat.lt_or_ge b w.heap.size with h | h
   · exact h
   · simp [World.cell?,Array.getElem?_eq_none h] at h1
  exact ⟨by rw [World.cell?_of_block (w:=w) (by exact hb b hlt (.inr (.inr ⟨o,v,hv⟩)))]; exact h1,h2⟩
 tbl:=fun b hq=>Nat.lt_of_lt_of_le (h.tbl b hq) hsz
 glb:=h.glb
theorem WRel.of_heap {E:Env} {s:St H} {w w':World} (h:WRel E s w) (hh:w'.heap=w.heap):WRel E s w':=h.off (by rw [hh]; exact Nat.le_refl _) fun b _ _=>by rw [hh]
theorem WRel.drew {E:Env} {s:St H} {w:World} (h:WRel E s w):WRel E s w.drew:=h.of_heap rfl
def Env.add (E:Env) (b o z:Nat):Env where
 n:=E.n+1
 blk:=fun i=>if i=E.n then b else E.blk i
 off:=fun i=>if i=E.n then o else E.off i
 sz:=fun i=>if i=E.n then z else E.sz i
 own:=fun i=>if i=E.n then true else E.own i
 fz:=E.fz
 tk:=fun i=>if i=E.n then fun _=>none else E.tk i
 tb:=E.tb
theorem Env.le_add (E:Env) (b o z:Nat):E.Le (E.add b o z) :=
 ⟨Nat.le_succ _,fun i hi=>by simp only [Env.add]; rw [if_neg (by omega)],fun i hi=>by simp only [Env.add]; rw [if_neg (by omega)],fun i hi=>by simp only [Env.add]; rw [if_neg (by omega)],fun i hi=>by simp only [Env.add]; rw [if_neg (by omega)],
  fun _ _ _ h=>h,fun i hi L r h=>by simp only [Env.add]; rw [if_neg (by omega)]; exact h,fun _ h=>h⟩
@[simp] theorem Env.add_blk (E:Env) (b o z:Nat):(E.add b o z).blk E.n=b:=by simp [Env.add]
@[simp] theorem Env.add_off (E:Env) (b o z:Nat):(E.add b o z).off E.n=o:=by simp [Env.add]
@[simp] theorem Env.add_sz (E:Env) (b o z:Nat):(E.add b o z).sz E.n=z:=by simp [Env.add]
@[simp] theorem Env.add_own (E:Env) (b o z:Nat):(E.add b o z).own E.n=true:=by simp [Env.add]
@[simp] theorem Env.add_n (E:Env) (b o z:Nat):(E.add b o z).n=E.n+1:=rfl
theorem Env.add_tk (E:Env) (b o z:Nat) {i:Nat} (h:i<E.n):(E.add b o z).tk i=E.tk i:=by simp only [Env.add]; rw [if_neg (by omega)]
theorem heap_setCells (b:Nat):∀ (vs:List Value) (o:Nat) (w:World) (k:Nat),k≠b→(w.setCells b o vs).heap[k]?=w.heap[k]?
 | [],_,_,_,_=>rfl
 | v::r,o,w,k,h=>by rw [World.setCells,heap_setCells b r (o+1) _ k h,Below.heap_setCell _ _ _ _ (by exact h)]
theorem size_setCells (b:Nat):∀ (vs:List Value) (o:Nat) (w:World),(w.setCells b o vs).heap.size=w.heap.size
 | [],_,_=>rfl
 | v::r,o,w=>by rw [World.setCells,size_setCells b r]; simp
theorem shape_setCell (w:World) (a:Addr) (v:Value) (k:Nat):(w.setCell a v).shape? k=w.shape? k:=by
 by_cases hk:k=a.block
 · subst hk
   simp only [World.shape?,World.setCell,Array.getElem?_modify,if_true]
   cases h:w.heap[a.block]? with
   | none=>rfl
   | some o =>
    cases o <;> try rfl
    simp only [Option.map_some]
    split <;> simp
 · simp only [World.shape?,Below.heap_setCell _ _ _ _ hk]
theorem shape_setCells (b:Nat):∀ (vs:List Value) (o:Nat) (w:World) (k:Nat),(w.setCells b o vs).shape? k=w.shape? k
 | [],_,_,_=>rfl
 | v::r,o,w,k=>by rw [World.setCells,shape_setCells b r,shape_setCell]
theorem rest_setCells (b:Nat):∀ (vs:List Value) (o:Nat) (w:World),(w.setCells b o vs).os=w.os∧(w.setCells b o vs).tape=w.tape∧(w.setCells b o vs).output=w.output
 | [],_,_=>⟨rfl,rfl,rfl⟩
 | v::r,o,w=>by rw [World.setCells]; exact rest_setCells b r _ _
theorem cell_of_shape {w:World} {b n:Nat} {e:TypeId} (h:w.shape? b=some (e,n)) (o:Nat) (ho:o<n):(w.cell? ⟨b,o,none⟩).isSome=true:=by
 simp only [World.shape?] at h
 split at h
 · rename_i c el fz hb
   injection h with h
   injection h with h1 h2
   simp [World.cell?,hb,h2,ho]
 · cases h
theorem WRel.kill {E:Env} {s:St H} {w:World} (h:WRel E s w) (id:Nat):WRel E { s with h:=H.put s.h id none } w:=by
 have hg:∀ {i o},H.get (H.put s.h id none) i=some o→H.get s.h i=some o:=fun {i o} hg=>by
  rw [H.get_put] at hg; split at hg
  · cases hg
  · exact hg
 exact ⟨h.n,h.blt,fun i o q=>h.lt i o (hg q),fun i j oi oj hi hj=>h.inj i j oi oj (hg hi) (hg hj),fun i o q=>h.obj i o (hg q),
  fun i j L z L' z' b f t f' t' hi hj=>h.tinj i j L z L' z' b f t f' t' (hg hi) (hg hj),fun i o q=>h.tbo i o (hg q),fun b o v hv=>⟨(h.frz b o v hv).1,fun i x q=>(h.frz b o v hv).2 i x (hg q)⟩,h.tbl,h.glb⟩
theorem WRel.new {E:Env} {s:St H} {w w':World} (h:WRel E s w) (b o z:Nat) (x:DObj) (hxo:owned x=true)
 (hb:b<w'.heap.size) (hsz:w.heap.size≤w'.heap.size)
 (hkeep:∀ k,k<w.heap.size→k≠b→w'.heap[k]?=w.heap[k]?)
 (hnew:∀ i oi,H.get s.h i=some oi→E.own i=true→E.blk i≠b) (htb:E.tb b=false) (hfz:∀ o v,E.fz b o=some v→False)
 (hx:ORel' (E.add b o z) w' E.n x) :
 WRel (E.add b o z) (newD s x) w':=by
 have hle:=E.le_add b o z
 have hget:∀ i,H.get (newD s x).h i=if i=E.n then some x else H.get s.h i:=fun i=>by simp only [newD,H.get_put,h.n]
 have old:∀ {i oi},H.get s.h i=some oi→i≠E.n:=fun hg e=>by have:=h.lt _ _ hg; omega
 have hown:∀ i,i<E.n→(E.add b o z).own i=E.own i:=hle.own
 have hnt:∀ L y,x≠.tok L y:=fun L y e=>by subst e; cases hxo
 refine ⟨by simp [newD,h.n],fun i hi ho=>?_,fun i oi hg=>?_,fun i j oi oj hi hj hij ho ho'=>?_,fun i oi hg=>?_,fun i j L y L' y' bb f t f' t' hi hj hij q1 q2 q3 q4=>?_,fun i oi hg ho=>?_,fun bb oo v hv=>?_,fun bb hq=>Nat.lt_of_lt_of_le (h.tbl bb hq) hsz,fun g cs hg=>(h.glb g cs hg).mono hle⟩
 · by_cases e:i=E.n
   · subst e; simpa using hb
   · have hi':i<E.n:=by have:i<E.n+1:=hi; omega
     rw [hle.blk i hi']; exact Nat.lt_of_lt_of_le (h.blt i hi' (by rw [← hown i hi']; exact ho)) hsz
 · rw [hget] at hg
   by_cases e:i=E.n
   · subst e; exact Nat.lt_succ_self _
   · rw [if_neg e] at hg; exact Nat.lt_succ_of_lt (h.lt i oi hg)
 · rw [hget] at hi hj
   by_cases e:i=E.n
   · have e2:j≠E.n:=fun e2=>hij (e.trans e2.symm)
     rw [if_neg e2] at hj
     have hj':=h.lt j oj hj
     rw [e,Env.add_blk,hle.blk j hj']
     exact fun e3=>hnew j oj hj (by rw [← hown j hj']; exact ho') e3.symm
   · rw [if_neg e] at hi
     have hi':=h.lt i oi hi
     rw [hle.blk i hi']
     by_cases e2:j=E.n
     · rw [e2,Env.add_blk]; exact hnew i oi hi (by rw [← hown i hi']; exact ho)
     · rw [if_neg e2] at hj
       have hj':=h.lt j oj hj
       rw [hle.blk j hj']
       exact h.inj i j oi oj hi hj hij (by rw [← hown i hi']; exact ho) (by rw [← hown j hj']; exact ho')
 · rw [hget] at hg
   by_cases e:i=E.n
   · subst e; rw [if_pos rfl] at hg; injection hg with hg; subst hg; exact hx
   · rw [if_neg e] at hg
     have hi':=h.lt i _ hg
     have hR:=h.obj i oi hg
     cases hq:owned oi with
     | true=>exact hR.of_block hq hle hi' (hkeep _ (h.blt i hi' (hR.own.trans hq)) (hnew i _ hg (hR.own.trans hq)))
     | false =>
      cases oi with
      | tok L y =>
        refine TokRel.of_block hR (by rw [hown i hi']; exact hR.own) (fun L'=>by rw [Env.add_tk E b o z hi']) (fun _ q=>q) hsz fun bb f t q1 q2=>?_
        obtain ⟨_,_,b',f',t',r1,r2⟩:=hR
        rw [r1] at q1; injection q1 with q1; injection q1 with e1 q1; injection q1 with e2 q1; injection q1 with e3 q1
        subst e1 e2 e3
        obtain ⟨a1,a2,_⟩:=r2 q2
        have e:=hkeep b' a1 (fun e=>by rw [e,htb] at a2; cases a2)
        exact ⟨shape_of_block e,fun oo _ _=>⟨World.frozen?_of_block (w:=w) (by exact e),rfl⟩⟩
      | _=>cases hq
 · rw [hget] at hi hj
   have i1:i≠E.n:=fun e=>by rw [if_pos e] at hi; injection hi with hi; exact hnt _ _ hi
   have j1:j≠E.n:=fun e=>by rw [if_pos e] at hj; injection hj with hj; exact hnt _ _ hj
   rw [if_neg i1] at hi
   rw [if_neg j1] at hj
   rw [Env.add_tk E b o z (h.lt i _ hi)] at q1
   rw [Env.add_tk E b o z (h.lt j _ hj)] at q3
   exact h.tinj i j L y L' y' bb f t f' t' hi hj hij q1 q2 q3 q4
 · rw [hget] at hg
   by_cases e:i=E.n
   · rw [e,Env.add_blk]; exact htb
   · rw [if_neg e] at hg
     have hi':=h.lt i _ hg
     rw [hle.blk i hi']; exact h.tbo i oi hg (by rw [← hown i hi']; exact ho)
 · obtain ⟨h1,h2⟩:=h.frz bb oo v hv
   have hbb:bb≠b:=fun e=>hfz oo v (e ▸ hv)
   have hlt:bb<w.heap.size:=by
    rcases Nat.lt_or_ge bb w.heap.size with h | h
    · exact h
    · simp [World.cell?,Array.getElem?_eq_none h] at h1
   refine ⟨by rw [World.cell?_of_block (w:=w) (by exact hkeep bb hlt hbb)]; exact h1,fun i xi hg ho=>?_⟩
   rw [hget] at hg
   by_cases e:i=E.n
   · rw [e,Env.add_blk]; exact fun e=>hbb e.symm
   · rw [if_neg e] at hg
     have hi':=h.lt i _ hg
     rw [hle.blk i hi']; exact h2 i xi hg (by rw [← hown i hi']; exact ho)
theorem WRel.put {E:Env} {s:St H} {w w':World} (h:WRel E s w) (id:Nat) (o0 x:DObj) (hid:H.get s.h id=some o0) (ho:E.own id=true) (hxo:owned x=true)
 (hsz:w.heap.size=w'.heap.size) (hkeep:∀ k,k≠E.blk id→w'.heap[k]?=w.heap[k]?)
 (hx:ORel' E w' id x) :
 WRel E (putD s id x) w':=by
 have hget:∀ i,H.get (putD s id x).h i=if i=id then some x else H.get s.h i:=fun i=>H.get_put _ _ _ _
 have hl:=h.lt id o0 hid
 have htb:=h.tbo id o0 hid ho
 have hnt:∀ L y,x≠.tok L y:=fun L y e=>by subst e; cases hxo
 have hother:∀ i oi,H.get s.h i=some oi→i≠id→E.own i=true→E.blk i≠E.blk id:=fun i oi hi hne hoi e=>h.inj id i o0 oi hid hi hne.symm ho hoi e.symm
 refine ⟨h.n,fun i hi ho=>by rw [← hsz]; exact h.blt i hi ho,fun i oi hg=>?_,fun i j oi oj hi hj hij hoi hoj=>?_,fun i oi hg=>?_,fun i j L y L' y' bb f t f' t' hi hj hij q1 q2 q3 q4=>?_,fun i oi hg hoi=>?_,fun bb oo v hv=>?_,fun bb hq=>by rw [← hsz]; exact h.tbl bb hq,h.glb⟩
 · rw [hget] at hg
   by_cases e:i=id
   · subst e; exact hl
   · rw [if_neg e] at hg; exact h.lt i oi hg
 · rw [hget] at hi hj
   by_cases e:i=id
   · subst e
     have e2:j≠i:=fun e2=>hij e2.symm
     rw [if_neg e2] at hj
     exact fun e3=>hother j oj hj e2 hoj e3.symm
   · rw [if_neg e] at hi
     by_cases e2:j=id
     · subst e2; exact hother i oi hi e hoi
     · rw [if_neg e2] at hj; exact h.inj i j oi oj hi hj hij hoi hoj
 · rw [hget] at hg
   by_cases e:i=id
   · subst e; rw [if_pos rfl] at hg; injection hg with hg; subst hg; exact hx
   · rw [if_neg e] at hg
     have hi':=h.lt i _ hg
     have hR:=h.obj i oi hg
     cases hq:owned oi with
     | true=>exact hR.of_block hq (.refl E) hi' (hkeep _ (hother i _ hg e (hR.own.trans hq)))
     | false =>
      cases oi with
      | tok L y =>
       refine TokRel.of_block hR hR.own (fun L'=>rfl) (fun _ q=>q) (Nat.le_of_eq hsz) fun bb f t q1 q2=>?_
       obtain ⟨_,_,b',f',t',r1,r2⟩:=hR
       rw [r1] at q1; injection q1 with q1; injection q1 with e1 q1; injection q1 with e2 q1; injection q1 with e3 q1
       subst e1 e2 e3
       obtain ⟨a1,a2,_⟩:=r2 q2
       have e:=hkeep b' (fun e=>by rw [e,htb] at a2; cases a2)
       exact ⟨shape_of_block e,fun oo _ _=>⟨World.frozen?_of_block (w:=w) (by exact e),rfl⟩⟩
      | _=>cases hq
 · rw [hget] at hi hj
   have i1:i≠id:=fun e=>by rw [if_pos e] at hi; injection hi with hi; exact hnt _ _ hi
   have j1:j≠id:=fun e=>by rw [if_pos e] at hj; injection hj with hj; exact hnt _ _ hj
   rw [if_neg i1] at hi
   rw [if_neg j1] at hj
   exact h.tinj i j L y L' y' bb f t f' t' hi hj hij q1 q2 q3 q4
 · rw [hget] at hg
   by_cases e:i=id
   · rw [e]; exact htb
   · rw [if_neg e] at hg; exact h.tbo i oi hg hoi
 · obtain ⟨h1,h2⟩:=h.frz bb oo v hv
   have hbb:bb≠E.blk id:=fun e=>h2 id o0 hid ho e.symm
   refine ⟨by rw [World.cell?_of_block (w:=w) (by exact hkeep bb hbb)]; exact h1,fun i xi hg hoi=>?_⟩
   rw [hget] at hg
   by_cases e:i=id
   · rw [e]; exact fun e=>hbb e.symm
   · rw [if_neg e] at hg; exact h2 i xi hg hoi
theorem WRel.fz_lt {E:Env} {s:St H} {w:World} (h:WRel E s w) {b o:Nat} {v:Value} (hv:E.fz b o=some v):b<w.heap.size:=by
 obtain ⟨h1,_⟩:=h.frz b o v hv
 rcases Nat.lt_or_ge b w.heap.size with h | h
 · exact h
 · simp [World.cell?,Array.getElem?_eq_none h] at h1
end world
end Go.FS
