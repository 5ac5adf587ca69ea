/-
  Two arrays of integers compared. No program in sight.
-/
import Derived.Test.YtiiafgbdmejcpaaFlow
import Derived.ChangeKeysEq
import Derived.Laws.StructEq
namespace Go.Bas
open Go.RowKit

/-- are the first n integers of two functions the same? -/
def sameB (n : Nat) (f g : Nat → Int) : Bool := decide (∀ i, i < n → f i = g i)
theorem sameB_self {n : Nat} {f : Nat → Int} : sameB n f f = true := decide_eq_true fun _ _ => rfl
theorem sameB_yes {n : Nat} {f g : Nat → Int} (h : ∀ i, i < n → f i = g i) : sameB n f g = true := decide_eq_true h
theorem sameB_no {n : Nat} {f g : Nat → Int} (h : ¬ ∀ i, i < n → f i = g i) : sameB n f g = false := decide_eq_false h

section
variable {P : Program} {a : Act} {w : World} {o : Oper}

theorem run_eqItems_arr (d : Nat) {e : TypeId} {k : IntKind} {n : Nat} {f g : Nat → Int} (he : P.underlying e = some (.int k)) (hp : P.plainKey e = true) (hc : P.cellsOf e = 1) :
    ∀ is : List Nat, (∀ i ∈ is, i < n) → (Op.eqItems (d + 1) e (P.cellsOf e) (arr k n f) (arr k n g) is).run P w = .ok (decide (∀ i ∈ is, f i = g i)) w
  | [], _ => by simp [Op.eqItems]
  | i :: is, h => by
    have hi : i < n := h i (by simp)
    have p1 := run_part_plain (w := w) hp (xs := arr k n f) (off := i * P.cellsOf e) (v := .int k (f i)) (by rw [hc, Nat.mul_one, arr_get hi])
    have p2 := run_part_plain (w := w) hp (xs := arr k n g) (off := i * P.cellsOf e) (v := .int k (g i)) (by rw [hc, Nat.mul_one, arr_get hi])
    have ih := run_eqItems_arr d (f := f) (g := g) he hp hc is fun j hj => h j (by simp [hj])
    simp only [Op.eqItems, Sem.run_bind, p1, p2, Result.andThen_ok, run_equalIn_int w d e k k (f i) (g i) he]
    by_cases hfg : f i = g i
    · simp [hfg, ih]
    · simp [hfg]

theorem run_equal_arr {T e : TypeId} {k : IntKind} {n : Nat} {f g : Nat → Int} (hu : P.underlying T = some (.array n e)) (he : P.underlying e = some (.int k)) (hp : P.plainKey e = true) (hc : P.cellsOf e = 1) (hi : (P.info? e).isSome = true) :
    (Op.equal T (.agg (arr k n f)) (.agg (arr k n g))).run P w = .ok (sameB n f g) w := by
  obtain ⟨j, hj⟩ := Option.isSome_iff_exists.1 hi
  show (Op.equalIn (9999 + 1) T _ _).run P w = _
  rw [run_equalIn_array w 9999 _ _ hu hj, show (9999 : Nat) = 9998 + 1 from rfl, run_eqItems_arr 9998 he hp hc _ (fun i h => List.mem_range.1 h)]
  simp [sameB]

theorem run_eqGuard_arr {op : BinOp} {T : TypeId} {x y : Operand} {xs ys : Array Value} (h : P.eqGuardType P.depth T = false) : (eqGuard op T x y (.agg xs) (.agg ys)).run P w = .ok () w := run_eqGuard_agg w op T x y xs ys h

/-- '==' and '!=' on arrays, whose outcome is known. -/
theorem run_eql_arr {T U e : TypeId} {x y : Operand} {k : IntKind} {n : Nat} {f g : Nat → Int} (b : Bool) (ho : o.op = .binOp .eql T x y U) (hx : a.eval x = .agg (arr k n f)) (hy : a.eval y = .agg (arr k n g))
    (hu : P.underlying T = some (.array n e)) (he : P.underlying e = some (.int k)) (hp : P.plainKey e = true) (hc : P.cellsOf e = 1) (hi : (P.info? e).isSome = true) (hg : P.eqGuardType P.depth T = false)
    (hb : sameB n f g = b) : (execOp a.eval o).run P w = .ok (.value (.bool b)) w := by
  unfold execOp
  simp only [ho, hx, hy, Sem.run_bind, run_eqGuard_arr hg, Result.andThen_ok, binOp, run_equal_arr hu he hp hc hi, hb, Sem.run_pure]
theorem run_neq_arr {T U e : TypeId} {x y : Operand} {k : IntKind} {n : Nat} {f g : Nat → Int} (b : Bool) (ho : o.op = .binOp .neq T x y U) (hx : a.eval x = .agg (arr k n f)) (hy : a.eval y = .agg (arr k n g))
    (hu : P.underlying T = some (.array n e)) (he : P.underlying e = some (.int k)) (hp : P.plainKey e = true) (hc : P.cellsOf e = 1) (hi : (P.info? e).isSome = true) (hg : P.eqGuardType P.depth T = false)
    (hb : sameB n f g = b) : (execOp a.eval o).run P w = .ok (.value (.bool (!b))) w := by
  unfold execOp
  simp only [ho, hx, hy, Sem.run_bind, run_eqGuard_arr hg, Result.andThen_ok, binOp, run_equal_arr hu he hp hc hi, hb, Sem.run_pure]
/-- '==' and '!=' on booleans and integers. -/
theorem run_eql_bool {T U : TypeId} {x y : Operand} {p q : Bool} (ho : o.op = .binOp .eql T x y U) (hx : a.eval x = .bool p) (hy : a.eval y = .bool q) (hu : P.underlying T = some .bool) : (execOp a.eval o).run P w = .ok (.value (.bool (p == q))) w := by
  unfold execOp
  simp only [ho, hx, hy]
  have h1 : (eqGuard .eql T x y (.bool p) (.bool q)).run P w = .ok () w := by simp [eqGuard]
  have h2 : (Op.equal T (.bool p) (.bool q)).run P w = .ok (p == q) w := run_equalIn_bool' w 9999 T p q hu
  simp only [Sem.run_bind, h1, h2, Result.andThen_ok, binOp, Sem.run_pure]
theorem run_eql_int {T U : TypeId} {x y : Operand} {k : IntKind} {p q : Int} (ho : o.op = .binOp .eql T x y U) (hx : a.eval x = .int k p) (hy : a.eval y = .int k q) : (execOp a.eval o).run P w = .ok (.value (.bool (p == q))) w := by
  unfold execOp
  simp only [ho, hx, hy]
  simp [go_sem, binOp, Op.intCmp, eqGuard]

/-- an array's whole slice. -/
theorem run_slice_arr {T e : TypeId} {x : Operand} {b n : Nat} (ho : o.op = .slice T x none none none) (hx : a.eval x = .pointer (some ⟨b, 0, none⟩))
    (hu : P.underlying T = some (.array n e)) (hi : (P.info? e).map (·.size) = some 1) : (execOp a.eval o).run P w = .ok (.value (.slice (some ⟨b, 0, none⟩) n n)) w := by
  obtain ⟨i, h1, h2⟩ := Option.map_eq_some_iff.1 hi
  unfold execOp
  simp only [ho, hx]
  simp [Instr.sliceAt, Instr.sureAddr, run_underlying hu, Instr.sliceBounds, sizeOf, typeInfo, h1, h2]
  exact fun _ => rfl
/-- an array, built. -/
theorem run_built {T : TypeId} {parts : Array (Nat × Operand)} {v : Value} (ho : o.op = .build T parts)
    (h : (Instr.build T (parts.map fun (i, x) => (i, a.eval x))).run P w = .ok v w) : (execOp a.eval o).run P w = .ok (.value v) w := by
  unfold execOp
  simp only [ho, Sem.run_bind, h, Result.andThen_ok, Sem.run_pure]
variable {ops : Array Oper} {Q : Exit → Act → World → Prop} {rest : List Oper}
theorem step_val (hg : o.guard = none) {v : Value} (hr : (execOp a.eval o).run P w = .ok (.value v) w) (hK : wpList P ops Q rest (a.put o.dst v) w) : wpList P ops Q (o :: rest) a w :=
  wpList_plain hg fun K hK' => by unfold Oper.wp; rw [hr]; exact hK' _ _ hK
end
end Go.Bas
