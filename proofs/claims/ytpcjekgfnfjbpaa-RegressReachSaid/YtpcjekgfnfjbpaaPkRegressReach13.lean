/-
  Part 13 of the texts that the proof of RegressReach rests on, one after the other. Conditions: named in each theorem.
-/
import Derived.BigQuiet
import Derived.ChangeKeysEq
import Derived.Deep.DrawnRows
import Derived.Deep.QuietTactic
import Derived.Deep.RegionHeld3
import Derived.Deep.WholeRow
import Derived.Laws.BytesArg
import Derived.Laws.CopyOwn
import Derived.Laws.Strings
import Derived.Laws.StructEq
import Derived.Lib.BufferRead
import Derived.Lib.Hide
import Derived.Orders
import Derived.Test.YtpcjekgfnfjbpaaArr
import Derived.Test.YtpcjekgfnfjbpaaFlow
import Derived.Test.YtpcjekgfnfjbpaaKit
import Derived.WalkKit
import Derived.WalkLawsBesides
import Derived.WalkSmall
import Derived.WalkSpells
set_option linter.unusedVariables false
set_option linter.unusedSimpArgs false
namespace Go.Bas
open Go.RowKit
def strB (s:ByteArray) (i:Nat):Int:=((s.data.toList.getD i 0).toNat:Int)
theorem strB_bound (s:ByteArray) (i:Nat):0≤strB s i∧strB s i<256:=by
 unfold strB
 have:=(s.data.toList.getD i 0).toNat_lt
 omega
def strOf (n:Nat) (f:Nat→Int):ByteArray:=⟨((List.range n).map fun i=> UInt8.ofNat (f i).toNat).toArray⟩
variable {P : Program} {a : Act} {w : World} {o : Oper}
theorem run_len_str {x:Operand} {T:TypeId} {s:ByteArray} (ho:o.op=.call { callee:=.builtin .len,args:=#[x],argTypes:=#[T] }) (hx:a.eval x=.string s) (hu:P.underlying T=some .string):
  (execOp a.eval o).run P w=.ok (.value (.int .i64 (s.size:Int))) w:=by
 unfold execOp
 simp only [ho,resolve,invoke,builtin,Sem.run_bind,Sem.run_pure,Result.andThen_ok,List.map_toArray,List.map_cons,List.map_nil,hx,run_len_string w T o.type s hu]
 rfl
theorem run_leq {T U:TypeId} {x y:Operand} {k:IntKind} {p q:Int} (ho:o.op=.binOp .leq T x y U) (hx:a.eval x=.int k p) (hy:a.eval y=.int k q):(execOp a.eval o).run P w=.ok (.value (.bool (decide (p≤q)))) w:=by
 unfold execOp;simp only [ho,hx,hy];simp [go_sem,binOp,Op.intCmp,eqGuard]
theorem run_geq {T U:TypeId} {x y:Operand} {k:IntKind} {p q:Int} (ho:o.op=.binOp .geq T x y U) (hx:a.eval x=.int k p) (hy:a.eval y=.int k q):(execOp a.eval o).run P w=.ok (.value (.bool (decide (q≤p)))) w:=by
 unfold execOp;simp only [ho,hx,hy];simp [go_sem,binOp,Op.intCmp,eqGuard]
end Go.Bas
