/-
  Part 25 of the texts that the proof of SuiteOpens rests on, one after the other. Conditions: named in each theorem.
-/
import Derived.Test.YtpcjekgfnfjbpaaGreatPkSuiteOpens23
import Derived.Test.YtpcjekgfnfjbpaaGreatPkSuiteOpens2
import Derived.Test.YtpcjekgfnfjbpaaGreatPkSuiteOpens21
set_option linter.unusedVariables false
set_option linter.unusedSimpArgs false
namespace Go.aG
open Go.RowKit Go.ChangeShapes Go.WideShapes Go.ChangeAt
def uN (P:Program) (S:TypeId) (j:Nat):Option (Nat × Option Nat):=
 match P.underlying S with
 | some (.struct fs)=> (fs[j]?).map fun F=> (F.offset,(P.info? F.type).map (·.size))
 | _=> none
theorem bq {P:Program} {o:Oper} {a:Act} {w:World} {S:TypeId} {x:Operand} {j b off k m:Nat} (ho:o.op=.fieldAddr S x j) (hx:a.eval x=.pointer (some ⟨b,off,none⟩)) (hf:uN P S j=some (k,some (m+1))):
  (execOp a.eval o).run P w=.ok (.value (.pointer (some ⟨b,off+k,none⟩))) w:=by
 unfold uN at hf
 split at hf
 ·rename_i fs hu
  cases hF:fs[j]? with
  | none=> simp [hF] at hf
  | some F=>
   simp only [hF,Option.map_some,Option.some.injEq,Prod.mk.injEq] at hf
   obtain ⟨h1,h2⟩:=hf
   cases hq:P.info? F.type with
   | none=> simp [hq] at h2
   | some q=>
    have hs:q.size=m+1:=by simpa [hq] using h2
    unfold execOp
    simp only [ho,hx]
    simp [Instr.fieldAt,Instr.sureAddr,fieldPlace,run_underlying hu,Sem.run_bind,sizeOf,typeInfo,hq,hs,hF,go_sem,Addr.add_mid,h1]
 ·simp at hf
theorem ny {P:Program} {o:Oper} {a:Act} {w:World} {T e:TypeId} {x:Operand} {k:IntKind} {b off n:Nat} {f:Nat→Int} (ho:o.op=.load T x) (hx:a.eval x=.pointer (some ⟨b,off,none⟩))
  (hu:P.underlying T=some (.array n e)) (hi:(P.info? T).map (·.size)=some n) (hc:∀i,i<n→w.cell? ⟨b,off+i,none⟩=some (.int k (f i))):
  (execOp a.eval o).run P w=.ok (.value (.agg (arr k n f))) w:=by
 unfold execOp
 simp only [ho,hx,Instr.loadAt,Instr.sureAddr,Sem.run_bind,Sem.run_pure,Result.andThen_ok,run_loadVar_mid (P:=P) w b off T (vals k n f) _ (sM hc) hu rfl (by rw [hi,aU])]
 rfl
section
variable {H : Type} {enc : TypeId × Value → H} {P : Program} {w : World} {base : Nat} {spare : Nat → Bool} {held : Bool}
end
theorem oO {P:Program} {o:Oper} {a:Act} {w:World} {T e:TypeId} {x:Operand} {ad:Option Addr} {n len cap:Nat} (ho:o.op=.sliceToArrayPointer T x) (hx:a.eval x=.slice ad len cap) (hu:P.underlying T=some (.array n e)) (hl:n≤len):
  (execOp a.eval o).run P w=.ok (.value (.pointer ad)) w:=by
 unfold execOp
 simp only [ho,hx,Sem.run_bind,pY hu hl,Result.andThen_ok,Sem.run_pure]
end Go.aG
namespace Go.aG
open Go.RowKit Go.ChangeShapes Go.WideShapes Go.ChangeAt
section
variable {w w' : World} {b : Nat} {key nonce : Nat → Int} {x : Value}
end
section
variable {H : Type} {enc : TypeId × Value → H} {P : Program} {w : World} {base : Nat} {spare : Nat → Bool} {held : Bool}
theorem uj {t e:TypeId} {k:IntKind} {fuel:Nat} {cs:List Value} {y:DataW H × List MemPlace} (ht:P.underlying t=some (.slice e)) (he:P.underlying e=some (.int k)) (hc:P.cellsOf e=1)
  (hf:DataW.trod enc P w base spare held fuel t cs=some y):∃v n f,cs= [v] ∧Rd k w v n f∧(∀i,i<n→(Lit.int k (f i)).wf=true):=by
 rcases open_ints ht he hc hf with ⟨hcs,_⟩ | ⟨x,l,c,zs,hcs,_,hl,hm,hz,_,hcell,hwz⟩
 ·exact ⟨_,0,fun _=> 0,hcs,Rd.nil _ _ _,fun i hi=> by omega⟩
 ·unfold maxLen at hm
  have hlz:l≤zs.length:=by rw [hz];split<;> omega
  refine ⟨_,l,fun i=> zs.getD i 0,hcs,⟨_,_,rfl,hl,by omega,(fun h=> by cases h),fun hn=> ?_⟩,fun i hi=> ?_⟩
  ·have h0:=hcell 0 (by omega)
   obtain ⟨b,o,s⟩:=x
   have hs:s=none:=by simpa [Addr.add] using World.cell?_spot h0
   subst hs
   have hadd:∀i,(⟨b,o,none⟩:Addr).add i=⟨b,o+i,none⟩:=fun i=> by unfold Addr.add;split<;> simp_all
   refine ⟨b,o,rfl,?_,fun i hi=> ?_⟩
   ·have:=World.block_lt_of_cell? w _ h0
    simpa [hadd] using this
   ·rw [←hadd];exact hcell i (by omega)
  ·have hi':i<zs.length:=by omega
   have:=hwz zs[i] (List.getElem_mem hi')
   simpa [List.getD,hi'] using this
end
end Go.aG
