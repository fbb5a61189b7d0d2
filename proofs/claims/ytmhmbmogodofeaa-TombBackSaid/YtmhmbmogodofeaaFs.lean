/- FS, part s: what the primitives answer, as rules to rewrite with. -/
import Derived.Test.YtmhmbmogodofeaaFr
set_option autoImplicit false
namespace Go.FS
variable {H:HeapI} {P:Program}
theorem bop_lss (t:TypeId) (k:IntKind) (a b:Int):bopD P .lss t (.int k a) (.int k b)=some (.bool (decide (a<b))):=by cases k <;> rfl
theorem bop_leq (t:TypeId) (k:IntKind) (a b:Int):bopD P .leq t (.int k a) (.int k b)=some (.bool (decide (a≤b))):=by cases k <;> rfl
theorem bop_gtr (t:TypeId) (k:IntKind) (a b:Int):bopD P .gtr t (.int k a) (.int k b)=some (.bool (decide (a>b))):=by cases k <;> rfl
theorem bop_geq (t:TypeId) (k:IntKind) (a b:Int):bopD P .geq t (.int k a) (.int k b)=some (.bool (decide (a≥b))):=by cases k <;> rfl
theorem int_beq (a b:Int):(a == b)=decide (a=b):=by by_cases h:a=b <;> simp [h]
theorem bop_eql (t:TypeId) (k:IntKind) (a b:Int):bopD P .eql t (.int k a) (.int k b)=some (.bool (decide (a=b))):=by rw [← int_beq]; cases k <;> rfl
theorem bop_add (t:TypeId) (k:IntKind) (a b:Int):bopD P .add t (.int k a) (.int k b)=some (.int k (k.wrap (a+b))):=by cases k <;> rfl
theorem bop_mul (t:TypeId) (k:IntKind) (a b:Int):bopD P .mul t (.int k a) (.int k b)=some (.int k (k.wrap (a*b))):=by cases k <;> rfl
theorem runP_seq {α β:Type} (m:Sem α) (f:α→Sem β):runP P (m >>= f)=(runP P m).bind fun a=>runP P (f a):=by
  show runP P (Sem.bind m f)=_
  induction m <;> simp_all [Sem.bind,runP]
theorem uop_not (a:Bool):uopD P .not (.bool a)=some (.bool !a):=rfl
theorem min_int (k:IntKind) (a b:Int):minD P (.int k a) [.int k b]=some (.int k (if b<a then b else a)):=by cases k <;> rfl
theorem wrap_i64 {n:Int} (h0:-2 ^ 63≤n) (h:n≤2 ^ 63-1):IntKind.i64.wrap n=n:=by
  have e:IntKind.i64.wrap n=if (n % 2 ^ 64:Int)≥2 ^ 63 then n % 2 ^ 64-2 ^ 64 else n % 2 ^ 64:=by
    have:IntKind.i64.wrap n=if (true&&decide ((n % 2 ^ 64:Int)≥2 ^ 63))=true then n % 2 ^ 64-2 ^ 64 else n % 2 ^ 64:=rfl
    rw [this,Bool.true_and]
    by_cases hq:(n % 2 ^ 64:Int)≥2 ^ 63 <;> simp only [hq,decide_true,decide_false,if_true,if_false,Bool.false_eq_true]
  rw [e]
  split <;> omega
theorem wrap_u64 {n:Int} (h0:0≤n) (h:n<2 ^ 64):IntKind.u64.wrap n=n:=by
  have e:IntKind.u64.wrap n=n % 2 ^ 64:=by
    simp only [IntKind.wrap,IntKind.signed,IntKind.bits,Bool.false_and,Bool.false_eq_true,if_false]
  rw [e]
  omega
end Go.FS
