/-
  Part 26 of the texts that the proof of EscrowWrong rests on, one after the other. Conditions: named in each theorem.
-/
import Derived.Test.YtpcjekgfnfjbpaaGreatPkEscrowWrong18
import Derived.Deep.MidRow
set_option linter.unusedVariables false
set_option linter.unusedSimpArgs false
namespace Go.aG
open Go.RowKit
section
variable {P : Program} {ops : Array Oper} {rest : List Oper} {o : Oper} {a : Act} {w : World} {Q : Exit → Act → World → Prop}
theorem aL {T e:TypeId} {x y:Operand} {k:IntKind} {b n c sz i:Nat} (ho:o.op=.indexAddr T x y) (hx:a.eval x=.slice (some ⟨b,0,none⟩) n c) (hy:a.eval y=.int k (i:Int)) (hu:P.underlying T=some (.slice e)) (hi:(P.info? e).map (·.size)=some sz)
  (h1:i<n):(execOp a.eval o).run P w=.ok (.value (.pointer (some ⟨b,i * sz,none⟩))) w:=by
 obtain ⟨q,hi1,hi2⟩:=Option.map_eq_some_iff.1 hi
 unfold execOp;simp only [ho,hx,hy]
 simp [Instr.indexAt,asIntOf,run_underlying hu,sizeOf,typeInfo,hi1,hi2,h1,Addr.add]
 exact fun h=> h.symm
end
end Go.aG
