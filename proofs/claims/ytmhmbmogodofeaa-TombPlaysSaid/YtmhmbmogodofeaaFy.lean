import Derived.Test.YtmhmbmogodofeaaFx
set_option linter.unusedVariables false
namespace Go.FS
section
variable {G:Nat→Option (Array Value)} {P:Program}
theorem new_fn (s:St (FG G)) (o:DObj):newD s o={ h:=fun i=>if i=s.n then some o else s.h i,n:=s.n+1 }:=rfl
theorem put_new (s:St (FG G)) (a b:DObj):putD (newD s a) s.n b=newD s b:=by
 rw [put_fn,new_fn,new_fn]
 congr 1
 funext i
 by_cases h:i=s.n
 · rw [if_pos h,if_pos h]
 · rw [if_neg h]; show (if i=s.n then some a else s.h i)=_; rw [if_neg h,if_neg h]
theorem put_put (s:St (FG G)) (i:Nat) (a b:DObj):putD (putD s i a) i b=putD s i b:=by
 rw [put_fn,put_fn,put_fn]
 congr 1
 funext j
 by_cases hj:j=i
 · rw [if_pos hj,if_pos hj]
 · rw [if_neg hj,if_neg hj]; show (if j=i then some a else s.h j)=s.h j; rw [if_neg hj]
theorem get_n0 (s:St (FG G)) (a:DObj):(FG G).get (newD s a).h s.n=some a:=get_new rfl
variable {t:TypeId} {cs:List Value} {o:Nat}
theorem st_all {s:St (FG G)} {id n:Nat} {r l:List Value} (hz:sizeD P t=some n) (h:(FG G).get s.h id=some (.row r)) (hl:l.length=n) (h1:l.all oneC=true) (hr:r.length=n):storeD P s t (.pointer (some ⟨id,0,none⟩)) (.agg l.toArray)=some (putD s id (.row l)):=by
 rw [store_row (l:=l) hz h (by simp [Value.cells]) hl h1 (by omega)]
 unfold splice
 rw [List.take_zero,List.nil_append,Nat.zero_add,List.drop_eq_nil_of_le (by omega),List.append_nil]
end
section
variable {G:Nat→Option (Array Value)} {P:Program} {t:TypeId} {n:Nat} {r l:List Value}
theorem st_n0 (s:St (FG G)) (hz:sizeD P t=some n) (hl:l.length=n) (h1:l.all oneC=true) (hr:r.length=n):storeD P (newD s (.row r)) t (.pointer (some ⟨s.n,0,none⟩)) (.agg l.toArray)=some (newD s (.row l)):=by rw [st_all hz (get_n0 s _) hl h1 hr,put_new]
def Plain (v:Value):Prop:=∀ n,stripN 8 n v=v∧Bel n v
theorem Plain.int (k:IntKind) (i:Int):Plain (.int k i):=fun n=>⟨rfl,.int k i⟩
theorem Plain.bool (b:Bool):Plain (.bool b):=fun n=>⟨rfl,.bool b⟩
theorem Plain.string (b:ByteArray):Plain (.string b):=fun n=>⟨rfl,.string b⟩
def Leaf:Value→Bool
 | .int _ _=>true
 | .bool _=>true
 | .string _=>true
 | _=>false
theorem leaf_strip {v:Value} (h:Leaf v=true) (k n:Nat):stripN (k+1) n v=v:=by cases v <;> first | rfl | cases h
theorem leaf_bel {v:Value} (h:Leaf v=true) (n:Nat):Bel n v:=by
 cases v with
 | int k i=>exact .int k i
 | bool b=>exact .bool b
 | string b=>exact .string b
 | _=>cases h
theorem Plain.agg {l:List Value} (h:l.all Leaf=true):Plain (.agg l.toArray):=by
 intro n
 rw [List.all_eq_true] at h
 refine ⟨?_,.agg _ fun x hx=>leaf_bel (h x (by simpa using hx)) n⟩
 show Value.agg ((l.toArray.toList.map (stripN 7 n)).toArray)=_
 have:l.toArray.toList=l:=by simp
 rw [this]
 congr 2
 exact (List.map_congr_left fun x hx=>leaf_strip (h x hx) 6 n).trans (List.map_id' l)
theorem cut_plain {A:Ann (FG G)} {k:Nat} {f:FuncId} {fn:Func} (hI:A.i f=none) (hc:A.cut f=some [none]) (hf:P.funcs[f]?=some fn) {args:List Value} {s:St (FG G)} {v:Value} (hv:∀ a,v≠.tuple a) (hp:Plain v)
 (h:One (bodyD P (A.row f) (callD P A k) A.N f fn args s) fun v' s'=>v'=v∧Ext s s'):callD P A (k+1) (.fn f) args s=some [(v,s)]:=by
 have:=cut_call hI hc hf hv (by rw [(hp s.n).1]; exact (hp s.n).2) h
 rw [(hp s.n).1] at this
 exact this
def But (id:Nat) (s s':St (FG G)):Prop:=s.n≤s'.n∧∀ j,j<s.n→j≠id→(FG G).get s'.h j=(FG G).get s.h j
theorem But.refl (id:Nat) (s:St (FG G)):But id s s:=⟨Nat.le_refl _,fun _ _ _=>rfl⟩
theorem But.trans {id:Nat} {a b c:St (FG G)} (h:But id a b) (k:But id b c):But id a c:=⟨Nat.le_trans h.1 k.1,fun j hj hi=>(k.2 j (Nat.lt_of_lt_of_le hj h.1) hi).trans (h.2 j hj hi)⟩
theorem But.ext {id:Nat} {a b c:St (FG G)} (h:But id a b) (k:Ext b c):But id a c:=⟨Nat.le_trans h.1 k.1,fun j hj hi=>(k.2 j (Nat.lt_of_lt_of_le hj h.1)).trans (h.2 j hj hi)⟩
theorem But.new {id:Nat} {a b:St (FG G)} (h:But id a b) (o:DObj):But id a (newD b o):=h.ext ((Ext.refl b).new o)
theorem But.put {id:Nat} {a b:St (FG G)} (h:But id a b) (o:DObj):But id a (putD b id o):=⟨h.1,fun j hj hi=>by rw [get_put_other hi]; exact h.2 j hj hi⟩
theorem But.putNew {id i:Nat} {a b:St (FG G)} (h:But id a b) (hi:a.n≤i) (o:DObj):But id a (putD b i o):=⟨h.1,fun j hj hj2=>by rw [get_put_other (by omega)]; exact h.2 j hj hj2⟩
end
end Go.FS
