/- Part 3 of EscrowComes; conditions: in each theorem. -/
import Derived.Test.YtpcjekgfnfjbpaaGreatPkEC2
import Derived.ChangeOld
import Derived.OpenShut
import Derived.ProofKit
import Derived.ShutString
set_option linter.unusedVariables false
set_option linter.unusedSimpArgs false
namespace Go.bI
open Go.RowKit Go.ChangeShapes Go.WideShapes Go.ChangeAt
section
variable {H : Type} {enc : TypeId × Value -> H} {P : Program} {w : World} {base : Nat} {spare : Nat -> Bool} {held : Bool}
theorem BN {n:Nat} {t e:TypeId} {k:IntKind} {fuel:Nat} {cs:List Value} {x:DataW H × List MemPlace} (ht:P.underlying t=some (.array n e)) (he:P.underlying e=some (.int k)) (hc:P.cellsOf e=1) (hn:P.cellsOf t=n)
  (h:DataW.trod enc P w base spare held fuel t cs=some x):∃f:Nat->Int,cs=vals k n f/\∀i,i<n->(Lit.int k (f i)).wf=true:=by
 obtain⟨xs,m,rfl,rfl,hl,hx,hi⟩:=DataW.trod_array ht h;rw[hn] at hl;have each:∀i,i<n->∃a,cs[i]? =some (.int k a)/\(Lit.int k a).wf=true:=by
  intro i hin;have h1:=hi i hin;obtain⟨y,hy⟩:∃y,xs[i]? =some y:=by rw[kP aH];exact⟨_,rfl⟩
  rw[hy,hc,Nat.mul_one] at h1;obtain⟨a,ha,_,wa⟩:=DataW.trod_int he h1;refine⟨a,?_,wa⟩;have:(List.take 1 (List.drop i cs))[0]? =some (.int k a):=by rw[ha];rfl
  simpa using this
 refine⟨fun i=>match cs[i]? with | some (.int _ a)=>a | _=>0,?_,fun i hin=>?_⟩
 ·apply List.ext_getElem?
  intro i;by_cases hin:i<n
  ·obtain⟨a,ha,_⟩:=each i hin;rw[dF hin,ha]
  ·rw[List.getElem?_eq_none aH,List.getElem?_eq_none iU]
 ·obtain⟨a,ha,wa⟩:=each i hin;simp only[ha];exact wa
theorem open_arr {n:Nat} {t e:TypeId} {k:IntKind} {v:Value} {d:DataW H} {p:List MemPlace} (ht:P.underlying t=some (.array n e)) (he:P.underlying e=some (.int k)) (hc:P.cellsOf e=1) (hn:P.cellsOf t=n)
  {b0:Nat} (hv:Value.okWide P w .any b0 t v) (h:DataW.Trod enc P w base spare held t v d p):
  ∃f:Nat->Int,v=.agg (arr k n f)/\∀i,i<n->(Lit.int k (f i)).wf=true:=by
 unfold Value.okWide at hv;simp only[ht] at hv;obtain⟨cs,rfl,_,_⟩:=hv;obtain⟨fuel,hf⟩:=h;obtain⟨f,hcs,hw⟩:=BN ht he hc hn hf;refine⟨f,?_,hw⟩;simp only[Value.cells] at hcs;rw[arr,←hcs]
end
end Go.bI
