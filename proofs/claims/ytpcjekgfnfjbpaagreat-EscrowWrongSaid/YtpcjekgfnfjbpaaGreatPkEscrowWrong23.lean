/-
  Part 23 of the texts that the proof of EscrowWrong rests on, one after the other. Conditions: named in each theorem.
-/
import Derived.Test.YtpcjekgfnfjbpaaGreatPkEscrowWrong2
import Derived.Test.YtpcjekgfnfjbpaaGreatPkEscrowWrong21
import Derived.Deep.MidRow
set_option linter.unusedVariables false
set_option linter.unusedSimpArgs false
namespace Go.aG
open Go.RowKit Go.ChangeShapes Go.WideShapes Go.ChangeAt
def rW (P:Program) (S:TypeId) (j:Nat):Option (Nat × Option Nat):=
 match P.underlying S with
 | some (.struct fs)=> (fs[j]?).map fun F=> (F.offset,(P.info? F.type).map (·.size))
 | _=> none
theorem aM {P:Program} {o:Oper} {a:Act} {w:World} {S:TypeId} {x:Operand} {j b off k m:Nat} (ho:o.op=.fieldAddr S x j) (hx:a.eval x=.pointer (some ⟨b,off,none⟩)) (hf:rW P S j=some (k,some (m+1))):
  (execOp a.eval o).run P w=.ok (.value (.pointer (some ⟨b,off+k,none⟩))) w:=by
 unfold rW at hf
 split at hf
 ·rename_i fs hu
  cases hF:fs[j]? with
  | none=> simp [hF] at hf
  | some F=>
   simp only [hF,Option.map_some,Option.some.injEq,Prod.mk.injEq] at hf
   obtain ⟨h1,h2⟩:=hf
   cases hq:P.info? F.type with
   | none=> simp [hq] at h2
   | some q=>
    have hs:q.size=m+1:=by simpa [hq] using h2
    unfold execOp
    simp only [ho,hx]
    simp [Instr.fieldAt,Instr.sureAddr,fieldPlace,run_underlying hu,Sem.run_bind,sizeOf,typeInfo,hq,hs,hF,go_sem,Addr.add_mid,h1]
 ·simp at hf
section
variable {H : Type} {enc : TypeId × Value → H} {P : Program} {w : World} {base : Nat} {spare : Nat → Bool} {held : Bool}
end
end Go.aG
namespace Go.aG
open Go.RowKit Go.ChangeShapes Go.WideShapes Go.ChangeAt
section
variable {w w' : World} {b : Nat} {key nonce : Nat → Int} {x : Value}
end
section
variable {H : Type} {enc : TypeId × Value → H} {P : Program} {w : World} {base : Nat} {spare : Nat → Bool} {held : Bool}
theorem qY {t e:TypeId} {k:IntKind} {fuel:Nat} {cs:List Value} {y:DataW H × List MemPlace} (ht:P.underlying t=some (.slice e)) (he:P.underlying e=some (.int k)) (hc:P.cellsOf e=1)
  (hf:DataW.trod enc P w base spare held fuel t cs=some y):∃v n f,cs= [v] ∧Rd k w v n f∧(∀i,i<n→(Lit.int k (f i)).wf=true):=by
 rcases open_ints ht he hc hf with ⟨hcs,_⟩ | ⟨x,l,c,zs,hcs,_,hl,hm,hz,_,hcell,hwz⟩
 ·exact ⟨_,0,fun _=> 0,hcs,Rd.nil _ _ _,fun i hi=> by omega⟩
 ·unfold maxLen at hm
  have hlz:l≤zs.length:=by rw [hz];split<;> omega
  refine ⟨_,l,fun i=> zs.getD i 0,hcs,⟨_,_,rfl,hl,by omega,(fun h=> by cases h),fun hn=> ?_⟩,fun i hi=> ?_⟩
  ·have h0:=hcell 0 (by omega)
   obtain ⟨b,o,s⟩:=x
   have hs:s=none:=by simpa [Addr.add] using World.cell?_spot h0
   subst hs
   have hadd:∀i,(⟨b,o,none⟩:Addr).add i=⟨b,o+i,none⟩:=fun i=> by unfold Addr.add;split<;> simp_all
   refine ⟨b,o,rfl,?_,fun i hi=> ?_⟩
   ·have:=World.block_lt_of_cell? w _ h0
    simpa [hadd] using this
   ·rw [←hadd];exact hcell i (by omega)
  ·have hi':i<zs.length:=by omega
   have:=hwz zs[i] (List.getElem_mem hi')
   simpa [List.getD,hi'] using this
end
end Go.aG
