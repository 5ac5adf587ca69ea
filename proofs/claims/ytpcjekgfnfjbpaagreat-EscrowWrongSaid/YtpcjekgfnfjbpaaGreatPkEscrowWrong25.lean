/-
  Part 25 of the texts that the proof of EscrowWrong rests on, one after the other. Conditions: named in each theorem.
-/
import Derived.Test.YtpcjekgfnfjbpaaGreatPkEscrowWrong8
import Derived.Test.YtpcjekgfnfjbpaaGreatPkEscrowWrong12
import Derived.Test.YtpcjekgfnfjbpaaGreatPkEscrowWrong18
import Derived.Deep.Cut
import Derived.Laws.BitsAllLaws
set_option linter.unusedVariables false
set_option linter.unusedSimpArgs false
namespace Go.aG
open Go.RowKit
section
variable {P : Program} {o : Oper} {a : Act} {w : World}
theorem mH {x:Operand} {b i:Nat} (ho:o.op=.nilCheck x) (hx:a.eval x=.pointer (some ⟨b,i,none⟩)):(execOp a.eval o).run P w=.ok (.value (.pointer (some ⟨b,i,none⟩))) w:=by
 unfold execOp
 simp [ho,hx]
end
end Go.aG
namespace Go.Proofs.YtpcjekgfnfjbpaaGreat
open Go.RowKit Go.aG
attribute [local go_sem ↓] Go.wp_at_zero Go.wp_at_succ
end Go.Proofs.YtpcjekgfnfjbpaaGreat
