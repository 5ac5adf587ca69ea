/- Part 7 of EscrowComes; conditions: in each theorem. -/
import Derived.Test.YtpcjekgfnfjbpaaGreatPkEC4
import Derived.Deep.MidRow
set_option linter.unusedVariables false
set_option linter.unusedSimpArgs false
namespace Go.bI
open Go.RowKit
theorem wh {w:World} {k:IntKind} {b off n:Nat} {f:Nat->Int} (hc:∀i,i<n->w.cell? ⟨b,off+i,none⟩=some (.int k (f i))):w.rangeAt b off (vals k n f):=by
 intro j v hv;have hj:j<n:=by have:=(List.getElem?_eq_some_iff.1 hv).1;simpa using this
 rw[dF hj] at hv;cases hv
 exact hc j hj
theorem oz {P:Program} {ops:Array Oper} {rest:List Oper} {o:Oper} {a:Act} {w:World} {Q:Exit->Act->World->Prop} (hg:o.guard=none) (T:TypeId) (x:Operand) (ho:o.op=.load T x) (k:IntKind) (b off n:Nat) (f:Nat->Int) (e:TypeId)
  (hu:P.underlying T=some (.array n e)) (hi:(P.info? T).map (·.size)=some n) (hx:a.eval x=.pointer (some ⟨b,off,none⟩)) (hc:∀i,i<n->w.cell? ⟨b,off+i,none⟩=some (.int k (f i)))
  (hK:wpList P ops Q rest (a.put o.dst (.agg (arr k n f))) w):wpList P ops Q (o::rest) a w:=
 wpList_load_mid hg T x ho b off hx (vals k n f) _ (wh hc) hu rfl (by rw[hi,dH]) hK
theorem lN {P:Program} {T e:TypeId} {a:Option Addr} {len cap n:Nat} (hu:P.underlying T=some (.array n e)) (hl:n<=len) (w:World):(Instr.arrayAt T (.slice a len cap)).run P w=.ok (.pointer a) w:=by
 simp[Instr.arrayAt,run_underlying hu,show ¬ len<n by omega]
theorem lF {P:Program} {w:World} {T e:TypeId} {b n m:Nat} (hu:P.underlying T=some (.array n e)) (hi:(P.info? e).map (·.size)=some 1) (hm:m<=n):
  (Instr.sliceAt T (.pointer (some ⟨b,0,none⟩)) none (some (.int .i64 (m:Int))) none).run P w=.ok (.slice (some ⟨b,0,none⟩) m n) w:=by
 obtain⟨i,h1,h2⟩:=Option.map_eq_some_iff.1 hi;simp[Instr.sliceAt,Instr.sureAddr,run_underlying hu,Instr.sliceBounds,run_sliceBound,sizeOf,typeInfo,h1,h2,hm];exact fun _=>rfl
end Go.bI
