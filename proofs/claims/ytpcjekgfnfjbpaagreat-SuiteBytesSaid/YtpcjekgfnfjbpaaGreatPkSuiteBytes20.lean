/- Part 20 of SuiteBytes; conditions: in each theorem. -/
import Derived.Test.YtpcjekgfnfjbpaaGreatPkSuiteBytes11
import Derived.Laws.IdiomCopy
import Derived.OrdersIn
import Derived.OwnWalkIn
import Derived.RangeFuncCalls
set_option linter.unusedVariables false
set_option linter.unusedSimpArgs false
namespace Go.bC
open Go.RowKit
section
variable {P : Program} {ops : Array Oper} {Q : Exit -> Act -> World -> Prop}
variable {o : Oper} {a : Act} {w : World} {K : Act -> World -> Prop} {R : Exit -> Act -> World -> Prop}
theorem jD {T e:TypeId} {x:Operand} {b i:Nat} {v:Value} (ho:o.op=.load T x) (hx:a.eval x=.pointer (some ⟨b,i,none⟩)) (hu:P.underlying T=some (.slice e)) (hc:w.cell? ⟨b,i,none⟩=some v):(execOp a.eval o).run P w=.ok (.value v) w:=by
 unfold execOp;simp only[ho,hx];simp[Instr.loadAt,Instr.sureAddr,loadVar,isAgg,run_underlying hu,go_sem,hc]
theorem AU {x:Operand} {t:TypeId} {ad:Option Addr} {n c:Nat} (ho:o.op=.call { callee:=.builtin .len,args:=#[x],argTypes:=#[t] }) (hx:a.eval x=.slice ad n c) {e:TypeId} (hu:P.underlying t=some (.slice e)):(execOp a.eval o).run P w=.ok (.value (.int .i64 n)) w:=by
 unfold execOp;simp only[ho,resolve,invoke,builtin,uD,xI,vG,zw,List.map_cons,List.map_nil,hx];simp[go_sem,Builtin.len_,Builtin.lenOf,goInt,run_underlying hu]
theorem FP (T:TypeId) (x y:Operand) (ho:o.op=.store T x y) (hd:o.dst=none) (b:Nat) (v v0:Value) (hv:v.cells=#[v]) (h1:v.oneCell'=true)
  (hi:(P.info? T).map (·.size)=some 1) (hx:a.eval x=.pointer (some ⟨b,0,none⟩)) (hy:a.eval y=v) (hc:w.cell? ⟨b,0,none⟩=some v0) (hf:w.frozen? ⟨b,0,none⟩=false) (hK:K a (w.setCell ⟨b,0,none⟩ v)):o.wp P a w K R:=by
 have hr:=run_storeCells_cells (P:=P) b 0 [v] 0 w
  (by
   intro j hj;have hj0:j=0:=by simp at hj;omega
   subst hj0;show (w.cell? ⟨b,0,none⟩).isSome=true;rw[hc];rfl)
  (by
   intro j hj;have hj0:j=0:=by simp at hj;omega
   subst hj0;exact hf)
  (by
   intro u hu;simp at hu;subst hu;exact h1)
 obtain⟨q,hq,hs⟩:=Option.map_eq_some_iff.1 hi;unfold Oper.wp execOp;simp only[Nat.add_zero] at hr;have hs2:(storeVar T ⟨b,0,none⟩ v).run P w=.ok () (w.setCell ⟨b,0,none⟩ v):=by
  simp[storeVar,sizeOf,typeInfo,hq,hs,hv,hr,World.setCells]
 simp only[ho,hx,hy,Instr.storeAt,Instr.sureAddr,uD,xI,vG,hs2];show K (a.put o.dst undef) _;rw[hd];exact hK
end
end Go.bC
