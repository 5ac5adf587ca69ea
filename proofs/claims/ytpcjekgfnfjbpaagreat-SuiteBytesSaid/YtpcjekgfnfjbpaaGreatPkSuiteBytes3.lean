/- Part 3 of SuiteBytes; conditions: in each theorem. -/
import Derived.Test.YtpcjekgfnfjbpaaGreatPkSuiteBytes2
import Derived.ChangeOld
import Derived.OpenShut
import Derived.ProofKit
import Derived.ShutString
set_option linter.unusedVariables false
set_option linter.unusedSimpArgs false
namespace Go.bC
open Go.RowKit Go.ChangeShapes Go.WideShapes Go.ChangeAt
section
variable {H : Type} {enc : TypeId × Value -> H} {P : Program} {w : World} {base : Nat} {spare : Nat -> Bool} {held : Bool}
theorem Ov {t e:TypeId} {k:IntKind} {v:Value} {d:DataW H} {p:List MemPlace} (ht:P.underlying t=some (.slice e)) (he:P.underlying e=some (.int k)) (hc:P.cellsOf e=1)
  {b0:Nat} (hv:Value.okWide P w .any b0 t v) (h:DataW.Trod enc P w base spare held t v d p):
  ∃n f,Rd k w v n f/\(∀i,i<n->(Lit.int k (f i)).wf=true):=by
 obtain⟨a,len,cap,rfl⟩:=okWide_slice ht hv;obtain⟨fuel,hf⟩:=h;rcases open_ints ht he hc hf with⟨hcs,_⟩ | ⟨x,l,c,zs,hcs,_,hl,hm,hz,_,hcell,hwz⟩
 ·simp[Value.cells] at hcs;obtain⟨rfl,rfl,rfl⟩:=hcs;exact⟨0,fun _=>0,Rd.nil _ _ _,fun i hi=>by omega⟩
 ·simp[Value.cells] at hcs;obtain⟨rfl,rfl,rfl⟩:=hcs;unfold maxLen at hm;have hlz:len<=zs.length:=by rw[hz];split<;> omega
  refine⟨len,fun i=>zs.getD i 0,⟨_,_,rfl,hl,by omega,(fun h=>by cases h),fun hn=>?_⟩,fun i hi=>?_⟩
  ·have h0:=hcell 0 aH;obtain⟨b,o,s⟩:=x;have hs:s=none:=by simpa [Addr.add] using World.cell?_spot h0
   subst hs;have hadd:∀i,(⟨b,o,none⟩:Addr).add i=⟨b,o+i,none⟩:=fun i=>by unfold Addr.add;split<;> simp_all
   refine⟨b,o,rfl,?_,fun i hi=>?_⟩
   ·have:=World.block_lt_of_cell? w _ h0
    simpa [hadd] using this
   ·rw[<-hadd];exact hcell i aH
  ·have hi':i<zs.length:=by omega
   have:=hwz zs[i] (List.getElem_mem hi')
   simpa [List.getD,hi'] using this
theorem SF {n:Nat} {t e:TypeId} {k:IntKind} {fuel:Nat} {cs:List Value} {x:DataW H × List MemPlace} (ht:P.underlying t=some (.array n e)) (he:P.underlying e=some (.int k)) (hc:P.cellsOf e=1) (hn:P.cellsOf t=n)
  (h:DataW.trod enc P w base spare held fuel t cs=some x):∃f:Nat->Int,cs=vals k n f/\∀i,i<n->(Lit.int k (f i)).wf=true:=by
 obtain⟨xs,m,rfl,rfl,hl,hx,hi⟩:=DataW.trod_array ht h;rw[hn] at hl;have each:∀i,i<n->∃a,cs[i]? =some (.int k a)/\(Lit.int k a).wf=true:=by
  intro i hin;have h1:=hi i hin;obtain⟨y,hy⟩:∃y,xs[i]? =some y:=by rw[tO aH];exact⟨_,rfl⟩
  rw[hy,hc,Nat.mul_one] at h1;obtain⟨a,ha,_,wa⟩:=DataW.trod_int he h1;refine⟨a,?_,wa⟩;have:(List.take 1 (List.drop i cs))[0]? =some (.int k a):=by rw[ha];rfl
  simpa using this
 refine⟨fun i=>match cs[i]? with | some (.int _ a)=>a | _=>0,?_,fun i hin=>?_⟩
 ·apply List.ext_getElem?
  intro i;by_cases hin:i<n
  ·obtain⟨a,ha,_⟩:=each i hin;rw[dS hin,ha]
  ·rw[List.getElem?_eq_none aH,List.getElem?_eq_none (by simp;omega)]
 ·obtain⟨a,ha,wa⟩:=each i hin;simp only[ha];exact wa
theorem open_arr {n:Nat} {t e:TypeId} {k:IntKind} {v:Value} {d:DataW H} {p:List MemPlace} (ht:P.underlying t=some (.array n e)) (he:P.underlying e=some (.int k)) (hc:P.cellsOf e=1) (hn:P.cellsOf t=n)
  {b0:Nat} (hv:Value.okWide P w .any b0 t v) (h:DataW.Trod enc P w base spare held t v d p):
  ∃f:Nat->Int,v=.agg (arr k n f)/\∀i,i<n->(Lit.int k (f i)).wf=true:=by
 unfold Value.okWide at hv;simp only[ht] at hv;obtain⟨cs,rfl,_,_⟩:=hv;obtain⟨fuel,hf⟩:=h;obtain⟨f,hcs,hw⟩:=SF ht he hc hn hf;refine⟨f,?_,hw⟩;simp only[Value.cells] at hcs;rw[arr,←hcs]
end
end Go.bC
