/-
  Part 27 of the texts that the proof of RegressApart rests on, one after the other. Conditions: named in each theorem.
-/
import Derived.Test.YtpcjekgfnfjbpaaPkRegressApart26
import Derived.Test.YtpcjekgfnfjbpaaPkRegressApart18
import Derived.Test.YtpcjekgfnfjbpaaPkRegressApart9
import Derived.Test.YtpcjekgfnfjbpaaPkRegressApart8
import Derived.BigQuiet
import Derived.ChangeKeysEq
import Derived.ChangeOld
import Derived.Deep.DrawnRows
import Derived.Deep.MidRow
import Derived.Deep.QuietTactic
import Derived.Deep.RegionHeld3
import Derived.Deep.WholeRow
import Derived.Laws.CopyOwn
import Derived.Laws.IdiomCopy
import Derived.Laws.StructEq
import Derived.Lib.Hide
import Derived.Maps.AppendAt
import Derived.Maps.Range
import Derived.OpenShut
import Derived.Orders
import Derived.OrdersIn
import Derived.OwnWalkIn
import Derived.ProofKit
import Derived.RangeFuncCalls
import Derived.ShutString
import Derived.Test.YtpcjekgfnfjbpaaArr
import Derived.Test.YtpcjekgfnfjbpaaFlow
import Derived.Test.YtpcjekgfnfjbpaaKit
import Derived.Test.YtpcjekgfnfjbpaaOpen
import Derived.WalkKit
import Derived.WalkLawsBesides
import Derived.WalkSmall
import Derived.WalkSpells
set_option linter.unusedVariables false
set_option linter.unusedSimpArgs false
namespace Go.Bas
open Go.RowKit Go.ChangeShapes Go.WideShapes Go.ChangeAt
def fieldOf (P:Program) (S:TypeId) (j:Nat):Option (Nat × Option Nat):=
 match P.underlying S with
 | some (.struct fs)=> (fs[j]?).map fun F=> (F.offset,(P.info? F.type).map (·.size))
 | _=> none
theorem run_field_at {P:Program} {o:Oper} {a:Act} {w:World} {S:TypeId} {x:Operand} {j b off k m:Nat} (ho:o.op=.fieldAddr S x j) (hx:a.eval x=.pointer (some ⟨b,off,none⟩)) (hf:fieldOf P S j=some (k,some (m+1))):
  (execOp a.eval o).run P w=.ok (.value (.pointer (some ⟨b,off+k,none⟩))) w:=by
 unfold fieldOf at hf
 split at hf
 ·rename_i fs hu
  cases hF:fs[j]? with
  | none=> simp [hF] at hf
  | some F=>
   simp only [hF,Option.map_some,Option.some.injEq,Prod.mk.injEq] at hf
   obtain ⟨h1,h2⟩:=hf
   cases hq:P.info? F.type with
   | none=> simp [hq] at h2
   | some q=>
    have hs:q.size=m+1:=by simpa [hq] using h2
    unfold execOp
    simp only [ho,hx]
    simp [Instr.fieldAt,Instr.sureAddr,fieldPlace,run_underlying hu,Sem.run_bind,sizeOf,typeInfo,hq,hs,hF,go_sem,Addr.add_mid,h1]
 ·simp at hf
theorem run_load_part {P:Program} {o:Oper} {a:Act} {w:World} {T e:TypeId} {x:Operand} {k:IntKind} {b off n:Nat} {f:Nat→Int} (ho:o.op=.load T x) (hx:a.eval x=.pointer (some ⟨b,off,none⟩))
  (hu:P.underlying T=some (.array n e)) (hi:(P.info? T).map (·.size)=some n) (hc:∀i,i<n→w.cell? ⟨b,off+i,none⟩=some (.int k (f i))):
  (execOp a.eval o).run P w=.ok (.value (.agg (arr k n f))) w:=by
 unfold execOp
 simp only [ho,hx,Instr.loadAt,Instr.sureAddr,Sem.run_bind,Sem.run_pure,Result.andThen_ok,run_loadVar_mid (P:=P) w b off T (vals k n f) _ (range_vals hc) hu rfl (by rw [hi,vals_length])]
 rfl
section
variable {H : Type} {enc : TypeId × Value → H} {P : Program} {w : World} {base : Nat} {spare : Nat → Bool} {held : Bool}
end
theorem run_to_array {P:Program} {o:Oper} {a:Act} {w:World} {T e:TypeId} {x:Operand} {ad:Option Addr} {n len cap:Nat} (ho:o.op=.sliceToArrayPointer T x) (hx:a.eval x=.slice ad len cap) (hu:P.underlying T=some (.array n e)) (hl:n≤len):
  (execOp a.eval o).run P w=.ok (.value (.pointer ad)) w:=by
 unfold execOp
 simp only [ho,hx,Sem.run_bind,arrayAt_part hu hl,Result.andThen_ok,Sem.run_pure]
end Go.Bas
