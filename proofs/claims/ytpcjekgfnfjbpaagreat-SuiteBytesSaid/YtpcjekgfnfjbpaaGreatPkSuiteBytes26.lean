/- Part 26 of SuiteBytes; conditions: in each theorem. -/
import Derived.Test.YtpcjekgfnfjbpaaGreatPkSuiteBytes25
import Derived.Test.YtpcjekgfnfjbpaaGreatPkSuiteBytes3
import Derived.Test.YtpcjekgfnfjbpaaGreatPkSuiteBytes20
set_option linter.unusedVariables false
set_option linter.unusedSimpArgs false
namespace Go.bC
open Go.RowKit Go.ChangeShapes Go.WideShapes Go.ChangeAt
def OP (P:Program) (S:TypeId) (j:Nat):Option (Nat × Option Nat):=
 match P.underlying S with
 | some (.struct fs)=>(fs[j]?).map fun F=>(F.offset,(P.info? F.type).map (·.size))
 | _=>none
theorem bP {P:Program} {o:Oper} {a:Act} {w:World} {S:TypeId} {x:Operand} {j b off k m:Nat} (ho:o.op=.fieldAddr S x j) (hx:a.eval x=.pointer (some ⟨b,off,none⟩)) (hf:OP P S j=some (k,some (m+1))):
  (execOp a.eval o).run P w=.ok (.value (.pointer (some ⟨b,off+k,none⟩))) w:=by
 unfold OP at hf
 split at hf
 ·rename_i fs hu
  cases hF:fs[j]? with
  | none=>simp[hF] at hf
  | some F=>
   simp only[hF,Option.map_some,CO,Prod.mk.injEq] at hf;obtain⟨h1,h2⟩:=hf
   cases hq:P.info? F.type with
   | none=>simp[hq] at h2
   | some q=>
    have hs:q.size=m+1:=by simpa [hq] using h2
    unfold execOp;simp only[ho,hx];simp[Instr.fieldAt,Instr.sureAddr,fieldPlace,run_underlying hu,uD,sizeOf,typeInfo,hq,hs,hF,go_sem,Addr.add_mid,h1]
 ·simp at hf
theorem gL {P:Program} {o:Oper} {a:Act} {w:World} {T e:TypeId} {x:Operand} {k:IntKind} {b off n:Nat} {f:Nat->Int} (ho:o.op=.load T x) (hx:a.eval x=.pointer (some ⟨b,off,none⟩))
  (hu:P.underlying T=some (.array n e)) (hi:(P.info? T).map (·.size)=some n) (hc:∀i,i<n->w.cell? ⟨b,off+i,none⟩=some (.int k (f i))):
  (execOp a.eval o).run P w=.ok (.value (.agg (arr k n f))) w:=by
 unfold execOp;simp only[ho,hx,Instr.loadAt,Instr.sureAddr,uD,xI,vG,run_loadVar_mid (P:=P) w b off T (vals k n f) _ (uV hc) hu rfl (by rw[hi,dO])]
 rfl
section
variable {H : Type} {enc : TypeId × Value -> H} {P : Program} {w : World} {base : Nat} {spare : Nat -> Bool} {held : Bool}
end
theorem jc {P:Program} {o:Oper} {a:Act} {w:World} {T e:TypeId} {x:Operand} {ad:Option Addr} {n len cap:Nat} (ho:o.op=.sliceToArrayPointer T x) (hx:a.eval x=.slice ad len cap) (hu:P.underlying T=some (.array n e)) (hl:n<=len):
  (execOp a.eval o).run P w=.ok (.value (.pointer ad)) w:=by
 unfold execOp;simp only[ho,hx,uD,xG hu hl,vG,xI]
end Go.bC
