/-
  Part 6 of the texts that the proof of SuiteOpens rests on, one after the other. Conditions: named in each theorem.
-/
import Derived.Test.YtpcjekgfnfjbpaaGreatPkSuiteOpens2
import Derived.Test.YtpcjekgfnfjbpaaGreatPkSuiteOpens5
import Derived.ChangeMaps5
import Derived.Deep.Slices
set_option linter.unusedVariables false
set_option linter.unusedSimpArgs false
namespace Go.aG
open Go.RowKit Go.ChangeShapes Go.WideShapes Go.ChangeAt
section
variable {H : Type} {enc : TypeId × Value → H} {P : Program} {w : World} {base : Nat} {spare : Nat → Bool} {held : Bool}
theorem uj {t e:TypeId} {k:IntKind} {fuel:Nat} {cs:List Value} {x:DataW H × List MemPlace} (ht:P.underlying t=some (.slice e)) (he:P.underlying e=some (.int k)) (hc:P.cellsOf e=1)
  (hf:DataW.trod enc P w base spare held fuel t cs=some x):∃v n f,cs= [v] ∧Rd k w v n f∧(∀i,i<n→(Lit.int k (f i)).wf=true):=by
 rcases open_ints ht he hc hf with ⟨hcs,_⟩ | ⟨x,len,cap,zs,hcs,_,hl,hm,hz,_,hcell,hwz⟩
 ·exact ⟨_,0,fun _=> 0,hcs,Rd.nil _ _ _,fun i hi=> by omega⟩
 ·unfold maxLen at hm
  have hlz:len≤zs.length:=by rw [hz];split<;> omega
  refine ⟨_,len,fun i=> zs.getD i 0,hcs,⟨_,_,rfl,hl,by omega,(fun h=> by cases h),fun hn=> ?_⟩,fun i hi=> ?_⟩
  ·have h0:=hcell 0 (by omega)
   obtain ⟨b,o,s⟩:=x
   have hs:s=none:=by simpa [Addr.add] using World.cell?_spot h0
   subst hs
   have hadd:∀i,(⟨b,o,none⟩:Addr).add i=⟨b,o+i,none⟩:=fun i=> by unfold Addr.add;split<;> simp_all
   refine ⟨b,o,rfl,?_,fun i hi=> ?_⟩
   ·have:=World.block_lt_of_cell? w _ h0
    simpa [hadd] using this
   ·rw [←hadd];exact hcell i (by omega)
  ·have hi':i<zs.length:=by omega
   have:=hwz zs[i] (List.getElem_mem hi')
   simpa [List.getD,hi'] using this
end
end Go.aG
