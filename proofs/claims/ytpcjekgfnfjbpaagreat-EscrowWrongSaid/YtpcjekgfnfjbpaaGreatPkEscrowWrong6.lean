/-
  Part 6 of the texts that the proof of EscrowWrong rests on, one after the other. Conditions: named in each theorem.
-/
import Derived.Test.YtpcjekgfnfjbpaaGreatPkEscrowWrong2
import Derived.Test.YtpcjekgfnfjbpaaGreatPkEscrowWrong5
import Derived.ChangeMaps5
import Derived.Deep.Slices
set_option linter.unusedVariables false
set_option linter.unusedSimpArgs false
namespace Go.aG
open Go.RowKit Go.ChangeShapes Go.WideShapes Go.ChangeAt
section
variable {H : Type} {enc : TypeId × Value → H} {P : Program} {w : World} {base : Nat} {spare : Nat → Bool} {held : Bool}
theorem qY {t e:TypeId} {k:IntKind} {fuel:Nat} {cs:List Value} {x:DataW H × List MemPlace} (ht:P.underlying t=some (.slice e)) (he:P.underlying e=some (.int k)) (hc:P.cellsOf e=1)
  (hf:DataW.trod enc P w base spare held fuel t cs=some x):∃v n f,cs= [v] ∧Rd k w v n f∧(∀i,i<n→(Lit.int k (f i)).wf=true):=by
 rcases open_ints ht he hc hf with ⟨hcs,_⟩ | ⟨x,len,cap,zs,hcs,_,hl,hm,hz,_,hcell,hwz⟩
 ·exact ⟨_,0,fun _=> 0,hcs,Rd.nil _ _ _,fun i hi=> by omega⟩
 ·unfold maxLen at hm
  have hlz:len≤zs.length:=by rw [hz];split<;> omega
  refine ⟨_,len,fun i=> zs.getD i 0,hcs,⟨_,_,rfl,hl,by omega,(fun h=> by cases h),fun hn=> ?_⟩,fun i hi=> ?_⟩
  ·have h0:=hcell 0 (by omega)
   obtain ⟨b,o,s⟩:=x
   have hs:s=none:=by simpa [Addr.add] using World.cell?_spot h0
   subst hs
   have hadd:∀i,(⟨b,o,none⟩:Addr).add i=⟨b,o+i,none⟩:=fun i=> by unfold Addr.add;split<;> simp_all
   refine ⟨b,o,rfl,?_,fun i hi=> ?_⟩
   ·have:=World.block_lt_of_cell? w _ h0
    simpa [hadd] using this
   ·rw [←hadd];exact hcell i (by omega)
  ·have hi':i<zs.length:=by omega
   have:=hwz zs[i] (List.getElem_mem hi')
   simpa [List.getD,hi'] using this
theorem uJ {t s e:TypeId} {v:Value} {d:DataW H} {p:List MemPlace} (ht:P.underlying t=some (.slice s)) (hs:P.underlying s=some (.slice e)) (he:P.underlying e=some (.int .u8)) (hc:P.cellsOf e=1) (hcs:P.cellsOf s=1)
  {b0:Nat} (hv:Value.okWide P w .any b0 t v) (h:DataW.Trod enc P w base spare held t v d p):
  ∃m lens g,Ai w v m lens g∧(∀j,j<m→∀i,i<lens j→(Lit.int .u8 (g j i)).wf=true):=by
 obtain ⟨a,len,cap,rfl⟩:=okWide_slice ht hv
 obtain ⟨fuel,hf⟩:=h
 rcases Go.Deep.open_slice ht hf with ⟨hcs,_⟩ | ⟨ad,l,c,m,n,D,Pl,hcs',_,hl,hm,hmm,_,hel⟩
 ·simp [Value.cells] at hcs
  obtain ⟨rfl,rfl,rfl⟩:=hcs
  exact ⟨0,fun _=> 0,fun _ _=> 0,Ai.nil _ _ _,fun i hi=> by omega⟩
 ·simp [Value.cells] at hcs'
  obtain ⟨rfl,rfl,rfl⟩:=hcs'
  unfold maxLen at hm
  have hle:len≤m:=by rw [hmm];split<;> omega
  have each:∀j,j<len→∃u q f,w.cell? (ad.add j)=some u∧Rd .u8 w u q f∧∀i,i<q→(Lit.int .u8 (f i)).wf=true:=by
   intro j hj
   obtain ⟨cs',hce,htr⟩:=hel j (by omega)
   rw [hcs,Nat.mul_one] at hce
   obtain ⟨_,hl1,hat⟩:=World.cells?_some hce
   obtain ⟨u,q,f,rfl,hr,hb⟩:=qY hs he hc htr
   have h0:=hat 0 (by decide)
   refine ⟨u,q,f,?_,hr,hb⟩
   simpa [Addr.add] using h0
  by_cases hn:0<len
  ·obtain ⟨u0,_,_,h0,_,_⟩:=each 0 hn
   obtain ⟨b,o,sp⟩:=ad
   have hsp:sp=none:=by simpa [Addr.add] using World.cell?_spot h0
   subst hsp
   have hadd:∀i,(⟨b,o,none⟩:Addr).add i=⟨b,o+i,none⟩:=fun i=> by unfold Addr.add;split<;> simp_all
   classical
   refine ⟨len,fun j=> if h:j<len then Classical.choose (Classical.choose_spec (each j h)) else 0,fun j=> if h:j<len then Classical.choose (Classical.choose_spec (Classical.choose_spec (each j h))) else fun _=> 0,⟨_,_,rfl,hl,by omega,fun _=> ⟨b,o,rfl,?_,fun j hj=> ?_⟩⟩,fun j hj i hi=> ?_⟩
   ·have:=World.block_lt_of_cell? w _ h0
    simpa [hadd] using this
   ·have hs3:=Classical.choose_spec (Classical.choose_spec (Classical.choose_spec (each j hj)))
    refine ⟨Classical.choose (each j hj),?_,?_⟩
    ·rw [←hadd];exact hs3.1
    ·simp only [dif_pos hj];exact hs3.2.1
   ·have hs3:=Classical.choose_spec (Classical.choose_spec (Classical.choose_spec (each j hj)))
    simp only [dif_pos hj] at hi ⊢
    exact hs3.2.2 i hi
  ·obtain rfl:len=0:=by omega
   exact ⟨0,fun _=> 0,fun _ _=> 0,⟨_,_,rfl,by omega,by omega,fun h=> absurd h hn⟩,fun j hj=> by omega⟩
end
end Go.aG
