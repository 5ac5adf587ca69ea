/-
  Part 24 of SuiteNone. Conditions: named in each theorem.
-/
import Derived.Test.YtpcjekgfnfjbpaaGreatPkSuiteNone23
import Derived.Test.YtpcjekgfnfjbpaaGreatPkSuiteNone3
import Derived.Test.YtpcjekgfnfjbpaaGreatPkSuiteNone18
set_option linter.unusedVariables false
set_option linter.unusedSimpArgs false
namespace Go.bI
open Go.RowKit Go.ChangeShapes Go.WideShapes Go.ChangeAt
def OM (P:Program) (S:TypeId) (j:Nat):Option (Nat × Option Nat):=
 match P.underlying S with
 | some (.struct fs)=> (fs[j]?).map fun F=> (F.offset,(P.info? F.type).map (·.size))
 | _=> none
theorem bC {P:Program} {o:Oper} {a:Act} {w:World} {S:TypeId} {x:Operand} {j b off k m:Nat} (ho:o.op=.fieldAddr S x j) (hx:a.eval x=.pointer (some ⟨b,off,none⟩)) (hf:OM P S j=some (k,some (m+1))):
  (execOp a.eval o).run P w=.ok (.value (.pointer (some ⟨b,off+k,none⟩))) w:=by
 unfold OM at hf
 split at hf
 ·rename_i fs hu
  cases hF:fs[j]? with
  | none=> simp [hF] at hf
  | some F=>
   simp only [hF,Option.map_some,Option.some.injEq,Prod.mk.injEq] at hf;obtain ⟨h1,h2⟩:=hf
   cases hq:P.info? F.type with
   | none=> simp [hq] at h2
   | some q=>
    have hs:q.size=m+1:=by simpa [hq] using h2
    unfold execOp;simp only [ho,hx];simp [Instr.fieldAt,Instr.sureAddr,fieldPlace,run_underlying hu,Sem.run_bind,sizeOf,typeInfo,hq,hs,hF,go_sem,Addr.add_mid,h1]
 ·simp at hf
theorem fD {P:Program} {o:Oper} {a:Act} {w:World} {T e:TypeId} {x:Operand} {k:IntKind} {b off n:Nat} {f:Nat->Int} (ho:o.op=.load T x) (hx:a.eval x=.pointer (some ⟨b,off,none⟩))
  (hu:P.underlying T=some (.array n e)) (hi:(P.info? T).map (·.size)=some n) (hc:∀i,i<n->w.cell? ⟨b,off+i,none⟩=some (.int k (f i))):
  (execOp a.eval o).run P w=.ok (.value (.agg (arr k n f))) w:=by
 unfold execOp;simp only [ho,hx,Instr.loadAt,Instr.sureAddr,Sem.run_bind,Sem.run_pure,Result.andThen_ok,run_loadVar_mid (P:=P) w b off T (vals k n f) _ (uq hc) hu rfl (by rw [hi,dn])]
 rfl
section
variable {H : Type} {enc : TypeId × Value -> H} {P : Program} {w : World} {base : Nat} {spare : Nat -> Bool} {held : Bool}
end
theorem gF {P:Program} {o:Oper} {a:Act} {w:World} {T e:TypeId} {x:Operand} {ad:Option Addr} {n len cap:Nat} (ho:o.op=.sliceToArrayPointer T x) (hx:a.eval x=.slice ad len cap) (hu:P.underlying T=some (.array n e)) (hl:n<=len):
  (execOp a.eval o).run P w=.ok (.value (.pointer ad)) w:=by
 unfold execOp;simp only [ho,hx,Sem.run_bind,kI hu hl,Result.andThen_ok,Sem.run_pure]
end Go.bI
