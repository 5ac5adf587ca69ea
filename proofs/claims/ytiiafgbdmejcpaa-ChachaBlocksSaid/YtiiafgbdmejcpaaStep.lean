/-
  One guarded operation of a region that keeps the text's order, by its value. No program in sight.
-/
import Derived.Test.YtiiafgbdmejcpaaOps
import Derived.BigFrame
namespace Go.Bas
open Go.RowKit
section
variable {P : Program} {ops : Array Oper} {rest : List Oper} {o : Oper} {a : Act} {w : World} {Q : Exit → Act → World → Prop}
theorem step_valg (hw : Region.wanted o (yielded ops a.tmps) = true) {v : Value} (hr : (execOp a.eval o).run P w = .ok (.value v) w) (hK : wpList P ops Q rest (a.put o.dst v) w) : wpList P ops Q (o :: rest) a w :=
  Go.BigFrame.wpList_want hw fun K hK' => by unfold Oper.wp; rw [hr]; exact hK' _ _ hK
end
end Go.Bas
