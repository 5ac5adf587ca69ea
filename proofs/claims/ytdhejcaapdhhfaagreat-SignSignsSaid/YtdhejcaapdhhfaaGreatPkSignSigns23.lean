/-
  Part 23 of the texts that the proof of SignSigns rests on, one after the other. Conditions: named in each theorem.
-/
import Derived.BigQuiet
import Derived.ChangeKeysEq
import Derived.Deep.DrawnRows
import Derived.Deep.QuietTactic
import Derived.Deep.RegionHeld3
import Derived.Deep.WholeRow
import Derived.Laws.BytesArg
import Derived.Laws.CopyOwn
import Derived.Laws.Strings
import Derived.Laws.StructEq
import Derived.Lib.BufferRead
import Derived.Lib.Hide
import Derived.Orders
import Derived.Test.YtdhejcaapdhhfaaGreatArr
import Derived.Test.YtdhejcaapdhhfaaGreatFlow
import Derived.Test.YtdhejcaapdhhfaaGreatKit
import Derived.WalkKit
import Derived.WalkLawsBesides
import Derived.WalkSmall
import Derived.WalkSpells
set_option linter.unusedVariables false
set_option linter.unusedSimpArgs false
namespace Go.Bas
open Go.RowKit
/-- the byte at i, as a number. -/
def strB (s : ByteArray) (i : Nat) : Int := ((s.data.toList.getD i 0).toNat : Int)
variable {P : Program} {a : Act} {w : World} {o : Oper}
theorem run_index_str {T : TypeId} {x y : Operand} {s : ByteArray} {k : IntKind} {p : Int} (ho : o.op = .index T x y) (hx : a.eval x = .string s) (hy : a.eval y = .int k p) (hu : P.underlying T = some .string) (h0 : 0 ≤ p) (h1 : p < s.size) :
    (execOp a.eval o).run P w = .ok (.value (.int .u8 (strB s p.toNat))) w := by
  have e : strB s p.toNat = ((s[p.toNat]'(by omega)).toNat : Int) := by
    unfold strB
    rw [List.getD_eq_getElem?_getD, List.getElem?_eq_getElem (by simpa using (show p.toNat < s.size by omega))]
    rfl
  unfold execOp
  simp only [ho, hx, hy, Sem.run_bind, run_index_string w T s k p hu, dif_pos (show 0 ≤ p ∧ p < s.size from ⟨h0, h1⟩), Result.andThen_ok, Sem.run_pure]
  rw [e]
theorem run_len_str {x : Operand} {T : TypeId} {s : ByteArray} (ho : o.op = .call { callee := .builtin .len, args := #[x], argTypes := #[T] }) (hx : a.eval x = .string s) (hu : P.underlying T = some .string) :
    (execOp a.eval o).run P w = .ok (.value (.int .i64 (s.size : Int))) w := by
  unfold execOp
  simp only [ho, resolve, invoke, builtin, Sem.run_bind, Sem.run_pure, Result.andThen_ok, List.map_toArray, List.map_cons, List.map_nil, hx, run_len_string w T o.type s hu]
  rfl
end Go.Bas
