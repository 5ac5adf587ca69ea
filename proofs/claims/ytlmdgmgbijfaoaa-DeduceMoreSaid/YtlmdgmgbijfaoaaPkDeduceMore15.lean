/-
  Part 15 of the texts that the proof of DeduceMore rests on, one after the other. Conditions: named in each theorem.
-/
import Derived.Test.YtlmdgmgbijfaoaaPkDeduceMore14
import Derived.Test.YtlmdgmgbijfaoaaPkDeduceMore8
import Derived.BigQuiet
import Derived.ChangeKeysEq
import Derived.ChangeOld
import Derived.Deep.DrawnRows
import Derived.Deep.MidRow
import Derived.Deep.QuietTactic
import Derived.Deep.RegionHeld3
import Derived.Deep.WholeRow
import Derived.Laws.CopyOwn
import Derived.Laws.IdiomCopy
import Derived.Laws.StructEq
import Derived.Lib.Hide
import Derived.Maps.AppendAt
import Derived.Maps.Range
import Derived.OpenShut
import Derived.Orders
import Derived.OrdersIn
import Derived.OwnWalkIn
import Derived.ProofKit
import Derived.RangeFuncCalls
import Derived.ShutString
import Derived.Test.YtlmdgmgbijfaoaaArr
import Derived.Test.YtlmdgmgbijfaoaaFlow
import Derived.Test.YtlmdgmgbijfaoaaKit
import Derived.Test.YtlmdgmgbijfaoaaOpen
import Derived.WalkKit
import Derived.WalkLawsBesides
import Derived.WalkSmall
import Derived.WalkSpells
set_option linter.unusedVariables false
set_option linter.unusedSimpArgs false
namespace Go.Bas
open Go.RowKit Go.ChangeShapes Go.WideShapes Go.ChangeAt
def fieldOf (P:Program) (S:TypeId) (j:Nat):Option (Nat × Option Nat):=
 match P.underlying S with
 | some (.struct fs)=> (fs[j]?).map fun F=> (F.offset,(P.info? F.type).map (·.size))
 | _=> none
theorem run_field_at {P:Program} {o:Oper} {a:Act} {w:World} {S:TypeId} {x:Operand} {j b off k m:Nat} (ho:o.op=.fieldAddr S x j) (hx:a.eval x=.pointer (some ⟨b,off,none⟩)) (hf:fieldOf P S j=some (k,some (m+1))):
  (execOp a.eval o).run P w=.ok (.value (.pointer (some ⟨b,off+k,none⟩))) w:=by
 unfold fieldOf at hf
 split at hf
 ·rename_i fs hu
  cases hF:fs[j]? with
  | none=> simp [hF] at hf
  | some F=>
   simp only [hF,Option.map_some,Option.some.injEq,Prod.mk.injEq] at hf
   obtain ⟨h1,h2⟩:=hf
   cases hq:P.info? F.type with
   | none=> simp [hq] at h2
   | some q=>
    have hs:q.size=m+1:=by simpa [hq] using h2
    unfold execOp
    simp only [ho,hx]
    simp [Instr.fieldAt,Instr.sureAddr,fieldPlace,run_underlying hu,Sem.run_bind,sizeOf,typeInfo,hq,hs,hF,go_sem,Addr.add_mid,h1]
 ·simp at hf
section
variable {H : Type} {enc : TypeId × Value → H} {P : Program} {w : World} {base : Nat} {spare : Nat → Bool} {held : Bool}
end
end Go.Bas
