/-
  Part 21 of the texts that the proof of EscrowWrong rests on, one after the other. Conditions: named in each theorem.
-/
import Derived.Test.YtpcjekgfnfjbpaaGreatPkEscrowWrong12
import Derived.Laws.IdiomCopy
import Derived.OrdersIn
import Derived.OwnWalkIn
import Derived.RangeFuncCalls
set_option linter.unusedVariables false
set_option linter.unusedSimpArgs false
namespace Go.aG
open Go.RowKit
section
variable {P : Program} {ops : Array Oper} {Q : Exit → Act → World → Prop}
variable {o : Oper} {a : Act} {w : World} {K : Act → World → Prop} {R : Exit → Act → World → Prop}
theorem aN {T e:TypeId} {x:Operand} {b i:Nat} {v:Value} (ho:o.op=.load T x) (hx:a.eval x=.pointer (some ⟨b,i,none⟩)) (hu:P.underlying T=some (.slice e)) (hc:w.cell? ⟨b,i,none⟩=some v):(execOp a.eval o).run P w=.ok (.value v) w:=by
 unfold execOp;simp only [ho,hx]
 simp [Instr.loadAt,Instr.sureAddr,loadVar,isAgg,run_underlying hu,go_sem,hc]
theorem qh {x:Operand} {t:TypeId} {ad:Option Addr} {n c:Nat} (ho:o.op=.call { callee:=.builtin .len,args:=#[x],argTypes:=#[t] }) (hx:a.eval x=.slice ad n c) {e:TypeId} (hu:P.underlying t=some (.slice e)):(execOp a.eval o).run P w=.ok (.value (.int .i64 n)) w:=by
 unfold execOp;simp only [ho,resolve,invoke,builtin,Sem.run_bind,Sem.run_pure,Result.andThen_ok,List.map_toArray,List.map_cons,List.map_nil,hx]
 simp [go_sem,Builtin.len_,Builtin.lenOf,goInt,run_underlying hu]
end
end Go.aG
